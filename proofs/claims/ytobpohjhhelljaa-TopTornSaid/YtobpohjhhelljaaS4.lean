/- Layer 6 (store): change: the program's. -/
import Derived.Test.YtobpohjhhelljaaS3
import Derived.Test.YtobpohjhhelljaaO10
namespace Go.Proofs.Ytobpohjhhelljaa
open Go.RowKit
set_option linter.unusedVariables false
set_option linter.unusedSimpArgs false


/-- the change of a Put: the error, and the change -/
def newO (o : Obj) (was : Option Obj) (v : Int) : Obj := { o with version := v, born := (if was.isSome then (was.getD objZ).born else v), deleting := (was.getD objZ).deleting }
def changeM (ms : List (GKey × Obj)) (cs : List Ev) (o : Obj) : Int × Ev :=
  if rightB o = false then (2, evZ)
  else if ¬ ((assoc ms (keyO o)).getD objZ).version = o.version then (6, evZ)
  else if (assoc ms (keyO o)).isSome = false ∧ 200 ≤ ms.length then (7, evZ)
  else (0, ⟨verS cs + 1, false, newO o (assoc ms (keyO o)) (verS cs + 1)⟩)
def ChangeP (w : World) (r : Int × Ev) (e : Ending) (w' : World) : Prop := e = .returned (.tuple #[.agg (cellsEv r.2), .int .i64 r.1]) ∧ Below w.heap.size w w'

/-- the boxes: the object's, the result's, and that of what was there -/
structure CB (w wx : World) (b : Nat) (o was : Obj) : Prop where
  ox : wx.heap[w.heap.size]? = some (.cells (cellsO o) 31 (0, 0))
  rx : wx.heap[w.heap.size + 1]? = some (.cells (cellsEv evZ) 69 (0, 0))
  bx : wx.heap[b]? = some (.cells (cellsO was) 31 (0, 0))
  lo : w.heap.size + 1 < b
  bl : Below w.heap.size w wx

set_option maxRecDepth 100000 in
set_option maxHeartbeats 4000000 in
theorem schange_any (w : World) (B : Nat) (L : SLoc) (cv : Value) (ms : List (GKey × Obj)) (cs : List Ev) (h : SM w B L cv ms cs) (o : Obj) (hf : o.Fits) (hv : 0 ≤ verS cs ∧ verS cs ≤ 1000000000) (hms : ms.length ≤ 1000000) :
    Calls Try.prog 32 #[.pointer (some ⟨L.p, 0, none⟩), .agg (cellsO o)] w (ChangeP w (changeM ms cs o)) := by
  have hZ := evZ_cells
  simp only [noText] at hZ
  have HZ := Lib.hid hZ
  clear hZ
  obtain ⟨W0, hW0⟩ : ∃ W0, W0 = (w.alloc (.cells (cellsO o) 31)).alloc (.cells (cellsEv evZ) 69) := ⟨_, rfl⟩
  have hb0 : Below w.heap.size w W0 := hW0 ▸ ((Below.refl _ w).alloc (Nat.le_refl _) _).alloc (by simp) _
  have hsz : W0.heap.size = w.heap.size + 2 := by rw [hW0]; simp
  have hox : W0.heap[w.heap.size]? = some (.cells (cellsO o) 31 (0, 0)) := by rw [hW0]; exact (heap_alloc_lt (by simp)).trans heap_alloc_eq
  have hrx : W0.heap[w.heap.size + 1]? = some (.cells (cellsEv evZ) 69 (0, 0)) := by
    have := World.alloc_heap_new (w.alloc (.cells (cellsO o) 31)) (.cells (cellsEv evZ) 69)
    rwa [World.size_alloc, ← hW0] at this
  have hW0' := hW0
  conv at hW0' => rhs; rw [HZ.out]
  have HW0 := Lib.hid hW0'
  have HOX := Lib.hid hox
  have HRX := Lib.hid hrx
  have HB0 := Lib.hid hb0
  have HF := Lib.hid hf
  have H0 := Lib.hid (h.below hb0)
  have HSZ := Lib.hid hsz
  have hplt := h.lt
  clear hW0 hW0' hox hrx hb0 hf h hsz
  obtain ⟨R, hR⟩ : ∃ R, R = changeM ms cs o := ⟨_, rfl⟩
  rw [← hR]
  have HRR := Lib.hid hR
  clear hR
  cases hr : rightB o with
  | false =>
    go_enter Try.func32, Try.ntmps32
    go_upto_region 3 with fail
    rw [← HW0.out]
    go_wp2_with (first
      | refine wpList_loadObj rfl _ rfl w.heap.size rfl o (cells_all HOX.out) ?_
      | (go_at_call 56; refine (right_any o _ HF.out).mono ?_; rintro e w1 ⟨rfl, hb⟩; have HB1 := Lib.hid (HB0.out.trans (hb.mono HB0.out.size)); have HR1 := Lib.hid ((hb.block _ (heap_lt HRX.out)).trans HRX.out); rw [hr]; clear hb)
      | refine wpList_loadEv0 rfl _ rfl (w.heap.size + 1) rfl evZ (cells_all HR1.out) ?_
      | refine wpList_storeEv rfl _ _ rfl (w.heap.size + 1) rfl evZ evZ rfl HR1.out ?_
      | fail)
    have hR : R = (2, evZ) := by rw [HRR.out]; unfold changeM; rw [if_pos hr]
    subst hR
    exact bodyPost_ret (results_es evZ rfl rfl rfl (cells_all (Wset_same (heap_lt HR1.out)))) rfl ⟨rfl, belowWs HB1.out (Nat.le_succ _)⟩
  | true =>
    go_enter Try.func32, Try.ntmps32
    go_upto_region 3 with fail
    rw [← HW0.out]
    go_upto_region 5 with (first
      | refine wpList_loadObj rfl _ rfl w.heap.size rfl o (cells_all HOX.out) ?_
      | (go_at_call 56; refine (right_any o _ HF.out).mono ?_; rintro e w1 ⟨rfl, hb⟩; have HB1 := Lib.hid (HB0.out.trans (hb.mono HB0.out.size)); have HR1 := Lib.hid ((hb.block _ (heap_lt HRX.out)).trans HRX.out); have HO1 := Lib.hid ((hb.block _ (heap_lt HOX.out)).trans HOX.out); have H1 := Lib.hid (H0.out.below hb); have hs1 := hb.size; rw [HSZ.out] at hs1; rw [hr]; clear hb HRX HOX HB0 H0 HSZ)
      | fail)
    obtain ⟨es, c, hm, hrep⟩ := H1.out.mp
    obtain ⟨p0, q0⟩ := cells_of_block H1.out.hd 0 (.map (some L.m)) rfl
    have hLk : ∀ x : World, x.heap[L.m]? = some (.map es c) → (Instr.lookup 73 (.map (some L.m)) (.agg #[.int .u8 o.kind, .string o.name]) true).run Try.prog x = .ok (.tuple #[.agg (cellsO ((assoc ms (keyO o)).getD objZ)), .bool (assoc ms (keyO o)).isSome]) x := fun x hx => run_lookup_ok keyOK undMap objZ zeroObj hrep (keyO o) x hx
    obtain ⟨was, hwas⟩ : ∃ was, was = assoc ms (keyO o) := ⟨_, rfl⟩
    rw [← hwas] at hLk
    obtain ⟨wo, hwo⟩ : ∃ wo, wo = was.getD objZ := ⟨_, rfl⟩
    obtain ⟨is, his⟩ : ∃ is, is = was.isSome := ⟨_, rfl⟩
    rw [← hwo, ← his] at hLk
    have hkeep : ∀ wz : World, Below w1.heap.size w1 wz → (wz.cell? ⟨L.p, 0, none⟩ = some (.map (some L.m))) ∧ (∀ k, wz.cell? ⟨w.heap.size, k, none⟩ = (cellsO o)[k]?) ∧ (wz.heap[L.m]? = some (.map es c)) := fun wz hb =>
      ⟨(hb.cell (p := ⟨L.p, 0, none⟩) H1.out.lt.1).trans p0, cells_all ((hb.block _ (heap_lt HO1.out)).trans HO1.out), (hb.block _ (heap_lt hm)).trans hm⟩
    have hcb : ∀ (wz : World) (b : Nat), Below w1.heap.size w1 wz → wz.heap[b]? = some (.cells (cellsO wo) 31 (0, 0)) → w1.heap.size ≤ b → CB w wz b o wo := fun wz b hb hbx hlo =>
      ⟨(hb.block _ (heap_lt HO1.out)).trans HO1.out, (hb.block _ (heap_lt HR1.out)).trans HR1.out, hbx, by omega, HB1.out.trans (hb.mono HB1.out.size)⟩
    have HCB := Lib.hid hcb
    have HKP := Lib.hid hkeep
    have HMM := Lib.hid hm
    have HREP := Lib.hid hrep
    have HWAS := Lib.hid (And.intro hwas (And.intro hwo his))
    clear hm hrep hkeep hcb p0 q0 hwas hwo his
    go_cut [6, 7] (fun s6 s7 wx => ∃ b, s6 = .pointer (some ⟨b, 0, none⟩) ∧ s7 = .bool is ∧ Hid (CB w wx b o wo) ∧ Hid (Below w1.heap.size w1 wx))
    case first =>
      refine wp_region_tree (fun w' => (w'.cell? ⟨L.p, 0, none⟩ = some (.map (some L.m))) ∧ (∀ k, w'.cell? ⟨w.heap.size, k, none⟩ = (cellsO o)[k]?) ∧ (w'.heap[L.m]? = some (.map es c))) (.t 0 (.t 1 (.t 2 (.t 3 (.t 4 (.f 5 (.t 6 (.t 7 (.t 8 (.t 9 (.a 10 (.a 11 (.t 12 .nil))))))) 10 (.a 5 (.t 6 (.t 7 (.t 8 (.t 9 (.a 11 (.t 12 .nil))))))))))))) (by kernel_rfl) (by kernel_rfl) (by kernel_rfl) ?_ ?_
      · exact (by first | exact HKP.out _ (Below.refl _ _).drew | exact HKP.out _ HK1.out | exact HKP.out _ (HK1.out.alloc HK1.out.size _) | exact HKP.out _ ((Below.refl _ _).drew.alloc (Nat.le_refl _) _) | exact HKP.out _ (belowWs (HK1.out.alloc HK1.out.size _) HK1.out.size) | exact HKP.out _ (belowWs HK1.out (Nat.le_refl _)))
      iterate 4
       apply wpT_takeK rfl _ (by first | rfl | (simp [Region.wanted, yielded]; done))
       · intro w' hS
         obtain ⟨s0, s1, s2⟩ := hS
         skip
         go_simp
         try rfl
       intro K hK
       go_simp
       refine hK _ ?_
       clear hK K
      refine wpT_takeK rfl (.agg (cellsO o)) (by first | rfl | (simp [Region.wanted, yielded]; done)) ?_ ?_
      · intro w' hS
        obtain ⟨s0, s1, s2⟩ := hS
        exact exec_loadObj o rfl rfl s1
      intro K hK
      go_simp
      refine hK _ ?_
      clear hK K
      refine wpT_fork rfl rfl ?_ ?_
      focus (go_wp2_with (first | (go_at_call 46; refine (key_any o w1.drew).mono ?_; rintro x w2 ⟨rfl, hb⟩; have HK1 := Lib.hid ((Below.refl w1.heap.size w1).drew.trans hb); clear hb) | (go_at_call 46; refine (key_any o (w1.drew.alloc _)).mono ?_; rintro x w2 ⟨rfl, hb⟩; have HK1 := Lib.hid (((Below.refl w1.heap.size w1).drew.alloc (Nat.le_refl _) _).trans (hb.mono (by simp))); have HQ2 := Lib.hid ((hb.block _ (by simp)).trans (heap_alloc_eq (w := w1.drew))); clear hb) | fail))
      refine QS_normal (by first | exact HKP.out _ (Below.refl _ _).drew | exact HKP.out _ HK1.out | exact HKP.out _ (HK1.out.alloc HK1.out.size _) | exact HKP.out _ ((Below.refl _ _).drew.alloc (Nat.le_refl _) _) | exact HKP.out _ (belowWs (HK1.out.alloc HK1.out.size _) HK1.out.size) | exact HKP.out _ (belowWs HK1.out (Nat.le_refl _))) (fun _ => ?_)
      iterate 4
       apply wpT_takeK rfl _ (by first | rfl | (simp [Region.wanted, yielded]; done))
       · intro w' hS
         obtain ⟨s0, s1, s2⟩ := hS
         skip
         go_simp
         try rfl
       intro K hK
       go_simp
       refine hK _ ?_
       clear hK K
      refine wpT_alone rfl ?_
      focus go_wp2
      refine QS_normal (by first | exact HKP.out _ (Below.refl _ _).drew | exact HKP.out _ HK1.out | exact HKP.out _ (HK1.out.alloc HK1.out.size _) | exact HKP.out _ ((Below.refl _ _).drew.alloc (Nat.le_refl _) _) | exact HKP.out _ (belowWs (HK1.out.alloc HK1.out.size _) HK1.out.size) | exact HKP.out _ (belowWs HK1.out (Nat.le_refl _))) (fun _ => ?_)
      refine wpT_alone rfl ?_
      focus (first | (refine wpList_storeObj rfl _ _ rfl w2.heap.size rfl wo rfl _ heap_alloc_eq rfl ?_; go_wp2) | (refine wpList_storeObj rfl _ _ rfl w1.heap.size rfl wo rfl _ HQ2.out rfl ?_; go_wp2))
      refine QS_normal (by first | exact HKP.out _ (Below.refl _ _).drew | exact HKP.out _ HK1.out | exact HKP.out _ (HK1.out.alloc HK1.out.size _) | exact HKP.out _ ((Below.refl _ _).drew.alloc (Nat.le_refl _) _) | exact HKP.out _ (belowWs (HK1.out.alloc HK1.out.size _) HK1.out.size) | exact HKP.out _ (belowWs HK1.out (Nat.le_refl _))) (fun _ => ?_)
      apply wpT_takeK rfl _ (by first | rfl | (simp [Region.wanted, yielded]; done))
      · intro w' hS
        obtain ⟨s0, s1, s2⟩ := hS
        skip
        go_simp
        try rfl
      intro K hK
      go_simp
      refine hK _ ?_
      clear hK K
      refine wpT_end ?_
      rotate_left
      focus go_wp2
      refine QS_normal (by first | exact HKP.out _ (Below.refl _ _).drew | exact HKP.out _ HK1.out | exact HKP.out _ (HK1.out.alloc HK1.out.size _) | exact HKP.out _ ((Below.refl _ _).drew.alloc (Nat.le_refl _) _) | exact HKP.out _ (belowWs (HK1.out.alloc HK1.out.size _) HK1.out.size) | exact HKP.out _ (belowWs HK1.out (Nat.le_refl _))) (fun _ => ?_)
      refine wpT_alone rfl ?_
      focus (go_wp2_with (first | (go_at_call 46; refine (key_any o w1.drew).mono ?_; rintro x w2 ⟨rfl, hb⟩; have HK1 := Lib.hid ((Below.refl w1.heap.size w1).drew.trans hb); clear hb) | (go_at_call 46; refine (key_any o (w1.drew.alloc _)).mono ?_; rintro x w2 ⟨rfl, hb⟩; have HK1 := Lib.hid (((Below.refl w1.heap.size w1).drew.alloc (Nat.le_refl _) _).trans (hb.mono (by simp))); have HQ2 := Lib.hid ((hb.block _ (by simp)).trans (heap_alloc_eq (w := w1.drew))); clear hb) | fail))
      refine QS_normal (by first | exact HKP.out _ (Below.refl _ _).drew | exact HKP.out _ HK1.out | exact HKP.out _ (HK1.out.alloc HK1.out.size _) | exact HKP.out _ ((Below.refl _ _).drew.alloc (Nat.le_refl _) _) | exact HKP.out _ (belowWs (HK1.out.alloc HK1.out.size _) HK1.out.size) | exact HKP.out _ (belowWs HK1.out (Nat.le_refl _))) (fun _ => ?_)
      iterate 4
       apply wpT_takeK rfl _ (by first | rfl | (simp [Region.wanted, yielded]; done))
       · intro w' hS
         obtain ⟨s0, s1, s2⟩ := hS
         skip
         go_simp
         try rfl
       intro K hK
       go_simp
       refine hK _ ?_
       clear hK K
      refine wpT_alone rfl ?_
      focus (first | (refine wpList_storeObj rfl _ _ rfl w2.heap.size rfl wo rfl _ heap_alloc_eq rfl ?_; go_wp2) | (refine wpList_storeObj rfl _ _ rfl w1.heap.size rfl wo rfl _ HQ2.out rfl ?_; go_wp2))
      refine QS_normal (by first | exact HKP.out _ (Below.refl _ _).drew | exact HKP.out _ HK1.out | exact HKP.out _ (HK1.out.alloc HK1.out.size _) | exact HKP.out _ ((Below.refl _ _).drew.alloc (Nat.le_refl _) _) | exact HKP.out _ (belowWs (HK1.out.alloc HK1.out.size _) HK1.out.size) | exact HKP.out _ (belowWs HK1.out (Nat.le_refl _))) (fun _ => ?_)
      apply wpT_takeK rfl _ (by first | rfl | (simp [Region.wanted, yielded]; done))
      · intro w' hS
        obtain ⟨s0, s1, s2⟩ := hS
        skip
        go_simp
        try rfl
      intro K hK
      go_simp
      refine hK _ ?_
      clear hK K
      refine wpT_end ?_
      rotate_left
      · go_wp2_with fail
        go_meet
        exact ⟨_, rfl, rfl, Lib.hid (HCB.out _ _ (belowWs (HK1.out.alloc HK1.out.size _) HK1.out.size) (Wset_same (by simp)) HK1.out.size), Lib.hid (belowWs (HK1.out.alloc HK1.out.size _) HK1.out.size)⟩
      · go_wp2_with fail
        go_meet
        exact ⟨_, rfl, rfl, Lib.hid (HCB.out _ _ (belowWs HK1.out (Nat.le_refl _)) (Wset_same (heap_lt HQ2.out)) (Nat.le_refl _)), Lib.hid (belowWs HK1.out (Nat.le_refl _))⟩
    case rest =>
      obtain ⟨b, rfl, rfl, HC, HBL⟩ := hcut
      clear HCB HKP hLk
      obtain ⟨b2, g2⟩ := cells_of_block HC.out.bx 2 (.int .u64 wo.version) rfl
      obtain ⟨o2, f2⟩ := cells_of_block HC.out.ox 2 (.int .u64 o.version) rfl
      have hwas := HWAS.out.1
      have hwo := HWAS.out.2.1
      have his := HWAS.out.2.2
      by_cases hve : wo.version = o.version
      · by_cases hfull : is = false ∧ 200 ≤ ms.length
        · have hRR := HRR.out
          unfold changeM at hRR
          rw [if_neg (by rw [hr]; simp), if_neg (by rw [← hwas, ← hwo]; simpa using hve), if_pos (by rw [← hwas, ← his]; exact hfull)] at hRR
          subst hRR
          have hf1 := hfull.1
          have hf2 : (200 : Int) ≤ ms.length := by omega
          have hN : ∀ x : World, x.heap[L.m]? = some (.map es c) → (Builtin.len_ #[73] 3 #[.map (some L.m)]).run Try.prog x = .ok (.int .i64 ms.length) x := fun x hx => run_mapLen undMap HREP.out x _ _ rfl hx
          have hNw := hN wc ((HBL.out.block _ (heap_lt HMM.out)).trans HMM.out)
          obtain ⟨p0, q0⟩ := cells_of_block (H1.out.below HBL.out).hd 0 (.map (some L.m)) rfl
          clear hN hwas hwo his hfull
          subst hf1
          go_wp2_with (first
            | refine wpList_loadEv0 rfl _ rfl (w.heap.size + 1) rfl evZ (cells_all HC.out.rx) ?_
            | refine wpList_storeEv rfl _ _ rfl (w.heap.size + 1) rfl evZ evZ rfl HC.out.rx ?_
            | fail)
          exact bodyPost_ret (results_es evZ rfl rfl rfl (cells_all (Wset_same (heap_lt HC.out.rx)))) rfl ⟨rfl, belowWs HC.out.bl (Nat.le_succ _)⟩
        · have hRR := HRR.out
          unfold changeM at hRR
          rw [if_neg (by rw [hr]; simp), if_neg (by rw [← hwas, ← hwo]; simpa using hve), if_neg (by rw [← hwas, ← his]; exact hfull)] at hRR
          subst hRR
          clear hwas hwo his
          cases hIS : is with
          | true =>
            subst hIS
            clear hfull
            go_upto_region 11 with (first
              | (go_at_call 9; refine (sversion_any _ B L cv ms cs (H1.out.below HBL.out)).mono ?_; rintro e w3 ⟨rfl, hb⟩; have ho3 := (hb.block _ (heap_lt HC.out.ox)).trans HC.out.ox; have hr3 := (hb.block _ (heap_lt HC.out.rx)).trans HC.out.rx; have hb3 := (hb.block _ (heap_lt HC.out.bx)).trans HC.out.bx; have HB3 := Lib.hid (HC.out.bl.trans (hb.mono HC.out.bl.size)); obtain ⟨o23, f23⟩ := cells_of_block ho3 2 (.int .u64 o.version) rfl; clear hb)
              | fail)
            obtain ⟨W4, hW4⟩ : ∃ W4, W4 = w3.setCell ⟨w.heap.size, 2, none⟩ (.int .u64 (verS cs + 1)) := ⟨_, rfl⟩
            have ho4 : W4.heap[w.heap.size]? = some (.cells (cellsO { o with version := verS cs + 1 }) 31 (0, 0)) := by rw [hW4, heap_setCell_same ho3, setO2]
            have hr4 : W4.heap[w.heap.size + 1]? = some (.cells (cellsEv evZ) 69 (0, 0)) := by rw [hW4]; exact (heap_setCell_ne (a := ⟨w.heap.size, 2, none⟩) (by simp)).trans hr3
            have hb4 : W4.heap[b]? = some (.cells (cellsO wo) 31 (0, 0)) := by rw [hW4]; exact (heap_setCell_ne (a := ⟨w.heap.size, 2, none⟩) (by have := HC.out.lo; simp only; omega)).trans hb3
            have HB4 := Lib.hid (show Below w.heap.size w W4 by rw [hW4]; exact belowSC HB3.out (Nat.le_refl _))
            rw [← hW4]
            clear o23 f23 ho3 hr3 hb3 HB3 hW4
            obtain ⟨x3, y3⟩ := cells_of_block ho4 3 (.int .u64 o.born) rfl
            obtain ⟨x4, y4⟩ := cells_of_block ho4 4 (.bool o.deleting) rfl
            have hbn : b ≠ w.heap.size := by have := HC.out.lo; omega
            have kx : ∀ wz : World, wz.heap[b]? = some (.cells (cellsO wo) 31 (0, 0)) → (wz.cell? ⟨b, 3, none⟩ = some (.int .u64 wo.born)) ∧ (wz.cell? ⟨b, 4, none⟩ = some (.bool wo.deleting)) := fun wz hz => ⟨(cells_of_block hz 3 (.int .u64 wo.born) rfl).1, (cells_of_block hz 4 (.bool wo.deleting) rfl).1⟩
            have KX := Lib.hid kx
            have HB40 := Lib.hid hb4
            clear kx hb4
            refine wp_region_tree (fun w' => (w'.cell? ⟨b, 3, none⟩ = some (.int .u64 wo.born)) ∧ (w'.cell? ⟨b, 4, none⟩ = some (.bool wo.deleting))) (.t 0 (.t 1 (.t 2 (.t 3 (.t 4 (.a 5 (.t 6 (.a 7 .nil)))))))) (by kernel_rfl) (by kernel_rfl) (by kernel_rfl) ?_ ?_
            · exact (by first | exact KX.out _ HB40.out | exact KX.out _ ((heap_setCell_ne (a := ⟨w.heap.size, 3, none⟩) hbn).trans HB40.out) | exact KX.out _ ((heap_setCell_ne (a := ⟨w.heap.size, 4, none⟩) hbn).trans ((heap_setCell_ne (a := ⟨w.heap.size, 3, none⟩) hbn).trans HB40.out)))
            iterate 5
             apply wpT_takeK rfl _ (by first | rfl | (simp [Region.wanted, yielded]; done))
             · intro w' hS
               obtain ⟨s0, s1⟩ := hS
               skip
               go_simp
               try rfl
             intro K hK
             go_simp
             refine hK _ ?_
             clear hK K
            refine wpT_alone rfl ?_
            focus go_wp2
            refine QS_normal (by first | exact KX.out _ HB40.out | exact KX.out _ ((heap_setCell_ne (a := ⟨w.heap.size, 3, none⟩) hbn).trans HB40.out) | exact KX.out _ ((heap_setCell_ne (a := ⟨w.heap.size, 4, none⟩) hbn).trans ((heap_setCell_ne (a := ⟨w.heap.size, 3, none⟩) hbn).trans HB40.out))) (fun _ => ?_)
            apply wpT_takeK rfl _ (by first | rfl | (simp [Region.wanted, yielded]; done))
            · intro w' hS
              obtain ⟨s0, s1⟩ := hS
              skip
              go_simp
              try rfl
            intro K hK
            go_simp
            refine hK _ ?_
            clear hK K
            refine wpT_alone rfl ?_
            focus go_wp2
            refine QS_normal (by first | exact KX.out _ HB40.out | exact KX.out _ ((heap_setCell_ne (a := ⟨w.heap.size, 3, none⟩) hbn).trans HB40.out) | exact KX.out _ ((heap_setCell_ne (a := ⟨w.heap.size, 4, none⟩) hbn).trans ((heap_setCell_ne (a := ⟨w.heap.size, 3, none⟩) hbn).trans HB40.out))) (fun _ => ?_)
            refine wpT_end ?_
            obtain ⟨W5, hW5⟩ : ∃ W5, W5 = ((W4.setCell ⟨w.heap.size, 3, none⟩ (.int .u64 wo.born)).setCell ⟨w.heap.size, 4, none⟩ (.bool wo.deleting)).drew := ⟨_, rfl⟩
            have ho5 : W5.heap[w.heap.size]? = some (.cells (cellsO { o with version := verS cs + 1, born := wo.born, deleting := wo.deleting }) 31 (0, 0)) := by
              have h3 := heap_setCell_same (o := 3) (v := .int .u64 wo.born) (w := W4) ho4
              rw [setO3] at h3
              rw [hW5, heap_drew, heap_setCell_same h3, setO4]
            have hr5 : W5.heap[w.heap.size + 1]? = some (.cells (cellsEv evZ) 69 (0, 0)) := by rw [hW5]; exact (heap_setCell_ne (a := ⟨w.heap.size, 4, none⟩) (by simp)).trans ((heap_setCell_ne (a := ⟨w.heap.size, 3, none⟩) (by simp)).trans hr4)
            have HB5 := Lib.hid (show Below w.heap.size w W5 by rw [hW5]; exact (belowSC (belowSC HB4.out (Nat.le_refl _)) (Nat.le_refl _)).drew)
            rw [← hW5]
            clear x3 y3 x4 y4 ho4 hr4 HB4 hW5 KX HB40
            obtain ⟨x2, y2⟩ := cells_of_block ho5 2 (.int .u64 (verS cs + 1)) rfl
            obtain ⟨O, hO⟩ : ∃ O : Obj, O = { o with version := verS cs + 1, born := wo.born, deleting := wo.deleting } := ⟨_, rfl⟩
            rw [← hO] at ho5
            have HOO := Lib.hid hO
            clear hO
            go_wp2_with (first
              | refine wpList_loadObj rfl _ rfl w.heap.size rfl O (cells_all ho5) ?_
              | ((with_reducible show wpList _ _ _ ({ dst := _, op := Op.build _ _, type := _, pos := _, after := _, guard := _ } :: _) _ _); refine wpList_buildEv rfl _ _ rfl (verS cs + 1) O rfl rfl ?_)
              | refine wpList_storeEv rfl _ _ rfl (w.heap.size + 1) rfl ⟨verS cs + 1, false, O⟩ evZ rfl hr5 ?_
              | fail)
            refine bodyPost_ret (results_es ⟨verS cs + 1, false, O⟩ rfl rfl rfl (cells_all (Wset_same (heap_lt hr5)))) rfl ⟨?_, belowWs HB5.out (Nat.le_succ _)⟩
            have hN : newO o (assoc ms (keyO o)) (verS cs + 1) = O := by
              rw [HOO.out, ← HWAS.out.1]
              unfold newO
              rw [← HWAS.out.2.2, ← HWAS.out.2.1]
              rfl
            rw [hN]
            rfl
          | false =>
            subst hIS
            have hnf : ¬ (200 : Int) ≤ ms.length := by
              intro hx
              exact hfull ⟨rfl, by omega⟩
            have hN : ∀ x : World, x.heap[L.m]? = some (.map es c) → (Builtin.len_ #[73] 3 #[.map (some L.m)]).run Try.prog x = .ok (.int .i64 ms.length) x := fun x hx => run_mapLen undMap HREP.out x _ _ rfl hx
            have hNw := hN wc ((HBL.out.block _ (heap_lt HMM.out)).trans HMM.out)
            obtain ⟨p0, q0⟩ := cells_of_block (H1.out.below HBL.out).hd 0 (.map (some L.m)) rfl
            clear hN hfull
            go_upto_region 11 with (first
              | (go_at_call 9; refine (sversion_any _ B L cv ms cs (H1.out.below HBL.out)).mono ?_; rintro e w3 ⟨rfl, hb⟩; have ho3 := (hb.block _ (heap_lt HC.out.ox)).trans HC.out.ox; have hr3 := (hb.block _ (heap_lt HC.out.rx)).trans HC.out.rx; have hb3 := (hb.block _ (heap_lt HC.out.bx)).trans HC.out.bx; have HB3 := Lib.hid (HC.out.bl.trans (hb.mono HC.out.bl.size)); obtain ⟨o23, f23⟩ := cells_of_block ho3 2 (.int .u64 o.version) rfl; clear hb)
              | fail)
            obtain ⟨W4, hW4⟩ : ∃ W4, W4 = w3.setCell ⟨w.heap.size, 2, none⟩ (.int .u64 (verS cs + 1)) := ⟨_, rfl⟩
            have ho4 : W4.heap[w.heap.size]? = some (.cells (cellsO { o with version := verS cs + 1 }) 31 (0, 0)) := by rw [hW4, heap_setCell_same ho3, setO2]
            have hr4 : W4.heap[w.heap.size + 1]? = some (.cells (cellsEv evZ) 69 (0, 0)) := by rw [hW4]; exact (heap_setCell_ne (a := ⟨w.heap.size, 2, none⟩) (by simp)).trans hr3
            have hb4 : W4.heap[b]? = some (.cells (cellsO wo) 31 (0, 0)) := by rw [hW4]; exact (heap_setCell_ne (a := ⟨w.heap.size, 2, none⟩) (by have := HC.out.lo; simp only; omega)).trans hb3
            have HB4 := Lib.hid (show Below w.heap.size w W4 by rw [hW4]; exact belowSC HB3.out (Nat.le_refl _))
            rw [← hW4]
            clear o23 f23 ho3 hr3 hb3 HB3 hW4
            obtain ⟨x3, y3⟩ := cells_of_block ho4 3 (.int .u64 o.born) rfl
            obtain ⟨x4, y4⟩ := cells_of_block ho4 4 (.bool o.deleting) rfl
            have hbn : b ≠ w.heap.size := by have := HC.out.lo; omega
            have kx : ∀ wz : World, wz.heap[b]? = some (.cells (cellsO wo) 31 (0, 0)) → (wz.cell? ⟨b, 3, none⟩ = some (.int .u64 wo.born)) ∧ (wz.cell? ⟨b, 4, none⟩ = some (.bool wo.deleting)) := fun wz hz => ⟨(cells_of_block hz 3 (.int .u64 wo.born) rfl).1, (cells_of_block hz 4 (.bool wo.deleting) rfl).1⟩
            have KX := Lib.hid kx
            have HB40 := Lib.hid hb4
            clear kx hb4
            refine wp_region_tree (fun w' => (w'.cell? ⟨b, 3, none⟩ = some (.int .u64 wo.born)) ∧ (w'.cell? ⟨b, 4, none⟩ = some (.bool wo.deleting))) (.t 0 (.t 1 (.t 2 (.t 3 (.t 4 (.a 5 (.t 6 (.a 7 .nil)))))))) (by kernel_rfl) (by kernel_rfl) (by kernel_rfl) ?_ ?_
            · exact (by first | exact KX.out _ HB40.out | exact KX.out _ ((heap_setCell_ne (a := ⟨w.heap.size, 3, none⟩) hbn).trans HB40.out) | exact KX.out _ ((heap_setCell_ne (a := ⟨w.heap.size, 4, none⟩) hbn).trans ((heap_setCell_ne (a := ⟨w.heap.size, 3, none⟩) hbn).trans HB40.out)))
            iterate 5
             apply wpT_takeK rfl _ (by first | rfl | (simp [Region.wanted, yielded]; done))
             · intro w' hS
               obtain ⟨s0, s1⟩ := hS
               skip
               go_simp
               try rfl
             intro K hK
             go_simp
             refine hK _ ?_
             clear hK K
            refine wpT_alone rfl ?_
            focus go_wp2
            refine QS_normal (by first | exact KX.out _ HB40.out | exact KX.out _ ((heap_setCell_ne (a := ⟨w.heap.size, 3, none⟩) hbn).trans HB40.out) | exact KX.out _ ((heap_setCell_ne (a := ⟨w.heap.size, 4, none⟩) hbn).trans ((heap_setCell_ne (a := ⟨w.heap.size, 3, none⟩) hbn).trans HB40.out))) (fun _ => ?_)
            apply wpT_takeK rfl _ (by first | rfl | (simp [Region.wanted, yielded]; done))
            · intro w' hS
              obtain ⟨s0, s1⟩ := hS
              skip
              go_simp
              try rfl
            intro K hK
            go_simp
            refine hK _ ?_
            clear hK K
            refine wpT_alone rfl ?_
            focus go_wp2
            refine QS_normal (by first | exact KX.out _ HB40.out | exact KX.out _ ((heap_setCell_ne (a := ⟨w.heap.size, 3, none⟩) hbn).trans HB40.out) | exact KX.out _ ((heap_setCell_ne (a := ⟨w.heap.size, 4, none⟩) hbn).trans ((heap_setCell_ne (a := ⟨w.heap.size, 3, none⟩) hbn).trans HB40.out))) (fun _ => ?_)
            refine wpT_end ?_
            obtain ⟨W5, hW5⟩ : ∃ W5, W5 = ((W4.setCell ⟨w.heap.size, 3, none⟩ (.int .u64 wo.born)).setCell ⟨w.heap.size, 4, none⟩ (.bool wo.deleting)).drew := ⟨_, rfl⟩
            have ho5 : W5.heap[w.heap.size]? = some (.cells (cellsO { o with version := verS cs + 1, born := wo.born, deleting := wo.deleting }) 31 (0, 0)) := by
              have h3 := heap_setCell_same (o := 3) (v := .int .u64 wo.born) (w := W4) ho4
              rw [setO3] at h3
              rw [hW5, heap_drew, heap_setCell_same h3, setO4]
            have hr5 : W5.heap[w.heap.size + 1]? = some (.cells (cellsEv evZ) 69 (0, 0)) := by rw [hW5]; exact (heap_setCell_ne (a := ⟨w.heap.size, 4, none⟩) (by simp)).trans ((heap_setCell_ne (a := ⟨w.heap.size, 3, none⟩) (by simp)).trans hr4)
            have HB5 := Lib.hid (show Below w.heap.size w W5 by rw [hW5]; exact (belowSC (belowSC HB4.out (Nat.le_refl _)) (Nat.le_refl _)).drew)
            rw [← hW5]
            clear x3 y3 x4 y4 ho4 hr4 HB4 hW5 KX HB40
            obtain ⟨x2, y2⟩ := cells_of_block ho5 2 (.int .u64 (verS cs + 1)) rfl
            obtain ⟨x3, y3⟩ := cells_of_block ho5 3 (.int .u64 wo.born) rfl
            go_upto_region 14 with fail
            obtain ⟨W6, hW6⟩ : ∃ W6, W6 = W5.setCell ⟨w.heap.size, 3, none⟩ (.int .u64 (verS cs + 1)) := ⟨_, rfl⟩
            have ho6 : W6.heap[w.heap.size]? = some (.cells (cellsO { o with version := verS cs + 1, born := verS cs + 1, deleting := wo.deleting }) 31 (0, 0)) := by
              rw [hW6, heap_setCell_same ho5, setO3]
            have hr6 : W6.heap[w.heap.size + 1]? = some (.cells (cellsEv evZ) 69 (0, 0)) := by rw [hW6]; exact (heap_setCell_ne (a := ⟨w.heap.size, 3, none⟩) (by simp)).trans hr5
            have HB6 := Lib.hid (show Below w.heap.size w W6 by rw [hW6]; exact belowSC HB5.out (Nat.le_refl _))
            rw [← hW6]
            clear x2 y2 x3 y3 ho5 hr5 HB5 hW6
            obtain ⟨x2, y2⟩ := cells_of_block ho6 2 (.int .u64 (verS cs + 1)) rfl
            obtain ⟨O, hO⟩ : ∃ O : Obj, O = { o with version := verS cs + 1, born := verS cs + 1, deleting := wo.deleting } := ⟨_, rfl⟩
            rw [← hO] at ho6
            have HOO := Lib.hid hO
            clear hO
            go_wp2_with (first
              | refine wpList_loadObj rfl _ rfl w.heap.size rfl O (cells_all ho6) ?_
              | ((with_reducible show wpList _ _ _ ({ dst := _, op := Op.build _ _, type := _, pos := _, after := _, guard := _ } :: _) _ _); refine wpList_buildEv rfl _ _ rfl (verS cs + 1) O rfl rfl ?_)
              | refine wpList_storeEv rfl _ _ rfl (w.heap.size + 1) rfl ⟨verS cs + 1, false, O⟩ evZ rfl hr6 ?_
              | fail)
            refine bodyPost_ret (results_es ⟨verS cs + 1, false, O⟩ rfl rfl rfl (cells_all (Wset_same (heap_lt hr6)))) rfl ⟨?_, belowWs HB6.out (Nat.le_succ _)⟩
            have hN : newO o (assoc ms (keyO o)) (verS cs + 1) = O := by
              rw [HOO.out, ← HWAS.out.1]
              unfold newO
              rw [← HWAS.out.2.2, ← HWAS.out.2.1]
              rfl
            rw [hN]
            rfl
      · have hRR := HRR.out
        unfold changeM at hRR
        rw [if_neg (by rw [hr]; simp), if_pos (by rw [← hwas, ← hwo]; exact hve)] at hRR
        subst hRR
        clear hwas hwo his
        go_wp2_with (first
          | refine wpList_loadEv0 rfl _ rfl (w.heap.size + 1) rfl evZ (cells_all HC.out.rx) ?_
          | refine wpList_storeEv rfl _ _ rfl (w.heap.size + 1) rfl evZ evZ rfl HC.out.rx ?_
          | fail)
        exact bodyPost_ret (results_es evZ rfl rfl rfl (cells_all (Wset_same (heap_lt HC.out.rx)))) rfl ⟨rfl, belowWs HC.out.bl (Nat.le_succ _)⟩

end Go.Proofs.Ytobpohjhhelljaa
