/- Layer 6 (store): fits: the program's. -/
import Derived.Test.YtobpohjhhelljaaS7
namespace Go.Proofs.Ytobpohjhhelljaa
open Go.RowKit
set_option linter.unusedVariables false
set_option linter.unusedSimpArgs false


/-- may a change be the next one? -/
def fitsM (ms : List (GKey × Obj)) (cs : List Ev) (c : Ev) : Bool :=
  if ¬ c.version = verS cs + 1 then false
  else if c.gone = true then (assoc ms (keyO c.obj)).isSome && decide ((assoc ms (keyO c.obj)).getD objZ = c.obj)
  else if ¬ c.obj.version = c.version then false
  else if (assoc ms (keyO c.obj)).isSome = true then decide (((assoc ms (keyO c.obj)).getD objZ).born = c.obj.born)
  else decide (c.obj.born = c.version) && decide (ms.length < 200)

theorem ret_eq {a b : Bool} (h : a = b) : Ending.returned (.bool a) = .returned (.bool b) := by rw [h]
structure FB (w wx : World) (b : Nat) (c : Ev) (was : Obj) : Prop where
  ox : wx.heap[w.heap.size]? = some (.cells (cellsEv c) 69 (0, 0))
  bx : wx.heap[b]? = some (.cells (cellsO was) 31 (0, 0))
  bl : Below w.heap.size w wx
theorem FB.next {w wx wy : World} {b : Nat} {c : Ev} {was : Obj} (h : FB w wx b c was) (hb : Below wx.heap.size wx wy) : FB w wy b c was :=
  ⟨(hb.block _ (heap_lt h.ox)).trans h.ox, (hb.block _ (heap_lt h.bx)).trans h.bx, h.bl.trans (hb.mono h.bl.size)⟩
theorem cellsEv_in (c : Ev) (k : Nat) (v : Value) (h : (cellsO c.obj)[k]? = some v) : (cellsEv c)[2 + k]? = some v := by rw [cellsEv_at]; exact h

theorem wpList_loadObjAtG {ops : Array Oper} {Q : Exit → Act → World → Prop} {o : Oper} {rest : List Oper} {a : Act} {w : World} (hw : Region.wanted o (yielded ops a.tmps) = true) (x : Operand) (hop : o.op = .load 31 x) (b k : Nat) (hx : a.eval x = .pointer (some ⟨b, k, none⟩))
    (p : Obj) (h : ∀ i, w.cell? ⟨b, k + i, none⟩ = (cellsO p)[i]?) (hK : wpList Try.prog ops Q rest (a.put o.dst (.agg (cellsO p))) w) : wpList Try.prog ops Q (o :: rest) a w :=
  BigFrame.wpList_want hw fun K hK' => by
    unfold Oper.wp
    rw [exec_loadObjAt p hop hx h]
    exact hK' _ _ hK

set_option maxRecDepth 100000 in
set_option maxHeartbeats 4000000 in
theorem sfits_any (w : World) (B : Nat) (L : SLoc) (cv : Value) (ms : List (GKey × Obj)) (cs : List Ev) (h : SM w B L cv ms cs) (c : Ev) (hv : 0 ≤ verS cs ∧ verS cs ≤ 1000000000) (hms : ms.length ≤ 1000000) :
    Calls Try.prog 54 #[.pointer (some ⟨L.p, 0, none⟩), .agg (cellsEv c)] w fun e w' => e = .returned (.bool (fitsM ms cs c)) ∧ Below w.heap.size w w' := by
  obtain ⟨R, hR⟩ : ∃ R, R = fitsM ms cs c := ⟨_, rfl⟩
  rw [← hR]
  have HRR := Lib.hid hR
  clear hR
  obtain ⟨w1, hw1⟩ : ∃ w1, w1 = w.alloc (.cells (cellsEv c) 69) := ⟨_, rfl⟩
  have hb0 : Below w.heap.size w w1 := hw1 ▸ (Below.refl _ w).alloc (Nat.le_refl _) _
  have hox : w1.heap[w.heap.size]? = some (.cells (cellsEv c) 69 (0, 0)) := by rw [hw1]; exact heap_alloc_eq
  have HX1 := Lib.hid (EvBox.mk hox)
  have HB1 := Lib.hid hb0
  have H1 := Lib.hid (h.below hb0)
  have HW1 := Lib.hid hw1
  clear hb0 hox h hw1
  obtain ⟨es, cl, hm, hrep⟩ := H1.out.mp
  obtain ⟨p0, q0⟩ := cells_of_block H1.out.hd 0 (.map (some L.m)) rfl
  have hLk : ∀ x : World, x.heap[L.m]? = some (.map es cl) → (Instr.lookup 73 (.map (some L.m)) (.agg #[.int .u8 c.obj.kind, .string c.obj.name]) true).run Try.prog x = .ok (.tuple #[.agg (cellsO ((assoc ms (keyO c.obj)).getD objZ)), .bool (assoc ms (keyO c.obj)).isSome]) x := fun x hx => run_lookup_ok keyOK undMap objZ zeroObj hrep (keyO c.obj) x hx
  obtain ⟨wo, hwo⟩ : ∃ wo, wo = (assoc ms (keyO c.obj)).getD objZ := ⟨_, rfl⟩
  obtain ⟨is, his⟩ : ∃ is, is = (assoc ms (keyO c.obj)).isSome := ⟨_, rfl⟩
  rw [← hwo, ← his] at hLk
  have hkeep : ∀ wz : World, Below w1.heap.size w1 wz → (wz.cell? ⟨L.p, 0, none⟩ = some (.map (some L.m))) ∧ (∀ i, wz.cell? ⟨w.heap.size, 2 + i, none⟩ = (cellsO c.obj)[i]?) ∧ (wz.heap[L.m]? = some (.map es cl)) := fun wz hb =>
    ⟨(hb.cell (p := ⟨L.p, 0, none⟩) H1.out.lt.1).trans p0, (EvBox.mk ((hb.block _ (heap_lt HX1.out.heap)).trans HX1.out.heap)).obj, (hb.block _ (heap_lt hm)).trans hm⟩
  have hfb : ∀ (wz : World) (b : Nat), Below w1.heap.size w1 wz → wz.heap[b]? = some (.cells (cellsO wo) 31 (0, 0)) → FB w wz b c wo := fun wz b hb hbx =>
    ⟨(hb.block _ (heap_lt HX1.out.heap)).trans HX1.out.heap, hbx, HB1.out.trans (hb.mono HB1.out.size)⟩
  have HFB := Lib.hid hfb
  have HKP := Lib.hid hkeep
  have HMM := Lib.hid hm
  have HREP := Lib.hid hrep
  have HWAS := Lib.hid (And.intro hwo his)
  clear hm hrep hkeep hfb p0 q0 hwo his
  go_enter Try.func54, Try.ntmps54
  go_upto_region 1 with fail
  rw [← HW1.out]
  go_cut [5, 6] (fun s5 s6 wx => ∃ b, s5 = .pointer (some ⟨b, 0, none⟩) ∧ s6 = .bool is ∧ Hid (FB w wx b c wo) ∧ Hid (Below w1.heap.size w1 wx))
  case first =>
    refine wp_region_tree (fun w' => (w'.cell? ⟨L.p, 0, none⟩ = some (.map (some L.m))) ∧ (∀ i, w'.cell? ⟨w.heap.size, 2 + i, none⟩ = (cellsO c.obj)[i]?) ∧ (w'.heap[L.m]? = some (.map es cl))) (.t 0 (.t 1 (.t 2 (.t 3 (.t 4 (.t 5 (.f 6 (.t 7 (.t 8 (.t 9 (.t 10 (.a 11 (.a 12 (.t 13 .nil))))))) 11 (.a 6 (.t 7 (.t 8 (.t 9 (.t 10 (.a 12 (.t 13 .nil)))))))))))))) (by kernel_rfl) (by kernel_rfl) (by kernel_rfl) ?_ ?_
    · exact (by first | exact HKP.out _ (Below.refl _ _).drew | exact HKP.out _ HK1.out | exact HKP.out _ (HK1.out.alloc HK1.out.size _) | exact HKP.out _ ((Below.refl _ _).drew.alloc (Nat.le_refl _) _) | exact HKP.out _ (belowWs (HK1.out.alloc HK1.out.size _) HK1.out.size) | exact HKP.out _ (belowWs HK1.out (Nat.le_refl _)))
    iterate 5
     apply wpT_takeK rfl _ (by first | rfl | (simp [Region.wanted, yielded]; done))
     · intro w' hS
       obtain ⟨s0, s1, s2⟩ := hS
       skip
       go_simp
       try rfl
     intro K hK
     go_simp
     refine hK _ ?_
     clear hK K
    refine wpT_takeK rfl (.agg (cellsO c.obj)) (by first | rfl | (simp [Region.wanted, yielded]; done)) ?_ ?_
    · intro w' hS
      obtain ⟨s0, s1, s2⟩ := hS
      exact exec_loadObjAt c.obj rfl rfl s1
    intro K hK
    go_simp
    refine hK _ ?_
    clear hK K
    refine wpT_fork rfl rfl ?_ ?_
    focus (go_wp2_with (first | (go_at_call 46; refine (key_any c.obj w1.drew).mono ?_; rintro x w2 ⟨rfl, hb⟩; have HK1 := Lib.hid ((Below.refl w1.heap.size w1).drew.trans hb); clear hb) | (go_at_call 46; refine (key_any c.obj (w1.drew.alloc _)).mono ?_; rintro x w2 ⟨rfl, hb⟩; have HK1 := Lib.hid (((Below.refl w1.heap.size w1).drew.alloc (Nat.le_refl _) _).trans (hb.mono (by simp))); have HQ2 := Lib.hid ((hb.block _ (by simp)).trans (heap_alloc_eq (w := w1.drew))); clear hb) | fail))
    refine QS_normal (by first | exact HKP.out _ (Below.refl _ _).drew | exact HKP.out _ HK1.out | exact HKP.out _ (HK1.out.alloc HK1.out.size _) | exact HKP.out _ ((Below.refl _ _).drew.alloc (Nat.le_refl _) _) | exact HKP.out _ (belowWs (HK1.out.alloc HK1.out.size _) HK1.out.size) | exact HKP.out _ (belowWs HK1.out (Nat.le_refl _))) (fun _ => ?_)
    iterate 4
     apply wpT_takeK rfl _ (by first | rfl | (simp [Region.wanted, yielded]; done))
     · intro w' hS
       obtain ⟨s0, s1, s2⟩ := hS
       skip
       go_simp
       try rfl
     intro K hK
     go_simp
     refine hK _ ?_
     clear hK K
    refine wpT_alone rfl ?_
    focus go_wp2
    refine QS_normal (by first | exact HKP.out _ (Below.refl _ _).drew | exact HKP.out _ HK1.out | exact HKP.out _ (HK1.out.alloc HK1.out.size _) | exact HKP.out _ ((Below.refl _ _).drew.alloc (Nat.le_refl _) _) | exact HKP.out _ (belowWs (HK1.out.alloc HK1.out.size _) HK1.out.size) | exact HKP.out _ (belowWs HK1.out (Nat.le_refl _))) (fun _ => ?_)
    refine wpT_alone rfl ?_
    focus (first | (refine wpList_storeObj rfl _ _ rfl w2.heap.size rfl wo rfl _ heap_alloc_eq rfl ?_; go_wp2) | (refine wpList_storeObj rfl _ _ rfl w1.heap.size rfl wo rfl _ HQ2.out rfl ?_; go_wp2))
    refine QS_normal (by first | exact HKP.out _ (Below.refl _ _).drew | exact HKP.out _ HK1.out | exact HKP.out _ (HK1.out.alloc HK1.out.size _) | exact HKP.out _ ((Below.refl _ _).drew.alloc (Nat.le_refl _) _) | exact HKP.out _ (belowWs (HK1.out.alloc HK1.out.size _) HK1.out.size) | exact HKP.out _ (belowWs HK1.out (Nat.le_refl _))) (fun _ => ?_)
    apply wpT_takeK rfl _ (by first | rfl | (simp [Region.wanted, yielded]; done))
    · intro w' hS
      obtain ⟨s0, s1, s2⟩ := hS
      skip
      go_simp
      try rfl
    intro K hK
    go_simp
    refine hK _ ?_
    clear hK K
    refine wpT_end ?_
    rotate_left
    focus go_wp2
    refine QS_normal (by first | exact HKP.out _ (Below.refl _ _).drew | exact HKP.out _ HK1.out | exact HKP.out _ (HK1.out.alloc HK1.out.size _) | exact HKP.out _ ((Below.refl _ _).drew.alloc (Nat.le_refl _) _) | exact HKP.out _ (belowWs (HK1.out.alloc HK1.out.size _) HK1.out.size) | exact HKP.out _ (belowWs HK1.out (Nat.le_refl _))) (fun _ => ?_)
    refine wpT_alone rfl ?_
    focus (go_wp2_with (first | (go_at_call 46; refine (key_any c.obj w1.drew).mono ?_; rintro x w2 ⟨rfl, hb⟩; have HK1 := Lib.hid ((Below.refl w1.heap.size w1).drew.trans hb); clear hb) | (go_at_call 46; refine (key_any c.obj (w1.drew.alloc _)).mono ?_; rintro x w2 ⟨rfl, hb⟩; have HK1 := Lib.hid (((Below.refl w1.heap.size w1).drew.alloc (Nat.le_refl _) _).trans (hb.mono (by simp))); have HQ2 := Lib.hid ((hb.block _ (by simp)).trans (heap_alloc_eq (w := w1.drew))); clear hb) | fail))
    refine QS_normal (by first | exact HKP.out _ (Below.refl _ _).drew | exact HKP.out _ HK1.out | exact HKP.out _ (HK1.out.alloc HK1.out.size _) | exact HKP.out _ ((Below.refl _ _).drew.alloc (Nat.le_refl _) _) | exact HKP.out _ (belowWs (HK1.out.alloc HK1.out.size _) HK1.out.size) | exact HKP.out _ (belowWs HK1.out (Nat.le_refl _))) (fun _ => ?_)
    iterate 4
     apply wpT_takeK rfl _ (by first | rfl | (simp [Region.wanted, yielded]; done))
     · intro w' hS
       obtain ⟨s0, s1, s2⟩ := hS
       skip
       go_simp
       try rfl
     intro K hK
     go_simp
     refine hK _ ?_
     clear hK K
    refine wpT_alone rfl ?_
    focus (first | (refine wpList_storeObj rfl _ _ rfl w2.heap.size rfl wo rfl _ heap_alloc_eq rfl ?_; go_wp2) | (refine wpList_storeObj rfl _ _ rfl w1.heap.size rfl wo rfl _ HQ2.out rfl ?_; go_wp2))
    refine QS_normal (by first | exact HKP.out _ (Below.refl _ _).drew | exact HKP.out _ HK1.out | exact HKP.out _ (HK1.out.alloc HK1.out.size _) | exact HKP.out _ ((Below.refl _ _).drew.alloc (Nat.le_refl _) _) | exact HKP.out _ (belowWs (HK1.out.alloc HK1.out.size _) HK1.out.size) | exact HKP.out _ (belowWs HK1.out (Nat.le_refl _))) (fun _ => ?_)
    apply wpT_takeK rfl _ (by first | rfl | (simp [Region.wanted, yielded]; done))
    · intro w' hS
      obtain ⟨s0, s1, s2⟩ := hS
      skip
      go_simp
      try rfl
    intro K hK
    go_simp
    refine hK _ ?_
    clear hK K
    refine wpT_end ?_
    rotate_left
    · go_wp2_with fail
      go_meet
      exact ⟨_, rfl, rfl, Lib.hid (HFB.out _ _ (belowWs (HK1.out.alloc HK1.out.size _) HK1.out.size) (Wset_same (by simp))), Lib.hid (belowWs (HK1.out.alloc HK1.out.size _) HK1.out.size)⟩
    · go_wp2_with fail
      go_meet
      exact ⟨_, rfl, rfl, Lib.hid (HFB.out _ _ (belowWs HK1.out (Nat.le_refl _)) (Wset_same (heap_lt HQ2.out))), Lib.hid (belowWs HK1.out (Nat.le_refl _))⟩
  case rest =>
    obtain ⟨b, rfl, rfl, HC, HBL⟩ := hcut
    clear HFB HKP hLk
    have X0 := Lib.hid (cells_of_block HC.out.ox 0 (.int .u64 c.version) (cellsEv_0 c)).1
    have hwr : IntKind.u64.wrap (verS cs + 1) = verS cs + 1 := by simp [IntKind.wrap, IntKind.bits, IntKind.signed]; omega
    go_upto_region 2 with fail
    by_cases hv1 : c.version = verS cs + 1
    · skip
      refine wp_region_tree (fun w' => (w'.cell? ⟨w.heap.size, 0, none⟩ = some (.int .u64 c.version))) (.t 0 (.t 1 (.t 2 (.a 3 (.t 4 (.t 5 (.t 6 .nil))))))) (by kernel_rfl) (by kernel_rfl) (by kernel_rfl) ?_ ?_
      · exact (by first | exact X0.out | exact X3.out)
      iterate 3
       apply wpT_takeK rfl _ (by first | rfl | (simp [Region.wanted, yielded]; done))
       · intro w' hS
         have s0 := hS
         clear hS
         go_simp
         try rfl
       intro K hK
       go_simp
       refine hK _ ?_
       clear hK K
      refine wpT_alone rfl ?_
      focus (go_wp2_with (first | (go_at_call 9; refine (sversion_any wc.drew B L cv ms cs (H1.out.below HBL.out.drew)).mono ?_; rintro x w3 ⟨rfl, hb⟩; have HC3 := Lib.hid (HC.out.next ((Below.refl _ _).drew.trans hb)); have HBL3 := Lib.hid (HBL.out.trans (((Below.refl wc.heap.size wc).drew.trans hb).mono HBL.out.size)); have X3 := Lib.hid (cells_of_block HC3.out.ox 0 (.int .u64 c.version) (cellsEv_0 c)).1; clear hb) | fail))
      refine QS_normal (by first | exact X0.out | exact X3.out) (fun _ => ?_)
      iterate 3
       apply wpT_takeK rfl _ (by first | rfl | (simp [Region.wanted, yielded]; done))
       · intro w' hS
         have s0 := hS
         clear hS
         go_simp
         try rfl
       intro K hK
       go_simp
       refine hK _ ?_
       clear hK K
      refine wpT_end ?_
      obtain ⟨x0, _⟩ := cells_of_block HC3.out.ox 0 (.int .u64 c.version) (cellsEv_0 c)
      obtain ⟨x1, _⟩ := cells_of_block HC3.out.ox 1 (.bool c.gone) (cellsEv_1 c)
      obtain ⟨x4, _⟩ := cells_of_block HC3.out.ox 4 (.int .u64 c.obj.version) (cellsEv_in c 2 _ rfl)
      obtain ⟨x5, _⟩ := cells_of_block HC3.out.ox 5 (.int .u64 c.obj.born) (cellsEv_in c 3 _ rfl)
      obtain ⟨b3, _⟩ := cells_of_block HC3.out.bx 3 (.int .u64 wo.born) rfl
      obtain ⟨p0, _⟩ := cells_of_block (H1.out.below HBL3.out).hd 0 (.map (some L.m)) rfl
      have hN : (Builtin.len_ #[73] 3 #[.map (some L.m)]).run Try.prog w3 = .ok (.int .i64 ms.length) w3 := run_mapLen undMap HREP.out w3 _ _ rfl ((HBL3.out.block _ (heap_lt HMM.out)).trans HMM.out)
      have HV1 := Lib.hid hv1
      go_upto_region 4 with fail
      clear hv1
      cases hg : c.gone with
      | true =>
        rw [hg] at x1
        cases hi : is with
        | true =>
          subst hi
          go_wp2_with (first
            | refine wpList_loadObjG (by first | rfl | (simp [Region.wanted, yielded]; done)) _ rfl b rfl wo (cells_all HC3.out.bx) ?_
            | refine wpList_loadObjAtG (by first | rfl | (simp [Region.wanted, yielded]; done)) _ rfl w.heap.size 2 rfl c.obj (EvBox.mk HC3.out.ox).obj ?_
            | refine wpList_eqlObjG (by first | rfl | (simp [Region.wanted, yielded]; done)) _ _ _ rfl wo c.obj rfl rfl ?_
            | fail)
          go_ret
          refine ⟨?_, HC3.out.bl⟩
          rw [HRR.out]
          unfold fitsM
          rw [← HWAS.out.1, ← HWAS.out.2]
          exact ret_eq (by
            simp [HV1.out, hg]
            try first | done | omega | (rw [Bool.eq_iff_iff]; simp) | (intro hx; exact absurd (hx.trans HV1.out.symm) hv3) | (intro hx; exact absurd (hx.trans HV1.out.symm) hv2))
        | false =>
          subst hi
          go_wp2
          go_ret
          refine ⟨?_, HC3.out.bl⟩
          rw [HRR.out]
          unfold fitsM
          rw [← HWAS.out.1, ← HWAS.out.2]
          exact ret_eq (by
            simp [HV1.out, hg]
            try first | done | omega | (rw [Bool.eq_iff_iff]; simp) | (intro hx; exact absurd (hx.trans HV1.out.symm) hv3) | (intro hx; exact absurd (hx.trans HV1.out.symm) hv2))
      | false =>
        rw [hg] at x1
        by_cases hv2 : c.obj.version = c.version
        · cases hi : is with
          | true =>
            subst hi
            go_wp2
            go_ret
            refine ⟨?_, HC3.out.bl⟩
            rw [HRR.out]
            unfold fitsM
            rw [← HWAS.out.1, ← HWAS.out.2]
            exact ret_eq (by
              simp [HV1.out, hg, hv2]
              try first | done | omega | (rw [Bool.eq_iff_iff]; simp) | (intro hx; exact absurd (hx.trans HV1.out.symm) hv3) | (intro hx; exact absurd (hx.trans HV1.out.symm) hv2))
          | false =>
            subst hi
            by_cases hv3 : c.obj.born = c.version
            iterate 2
             · go_wp2
               go_ret
               refine ⟨?_, HC3.out.bl⟩
               rw [HRR.out]
               unfold fitsM
               rw [← HWAS.out.1, ← HWAS.out.2]
               exact ret_eq (by
                 simp [HV1.out, hg, hv2, hv3]
                 try first | done | omega | (rw [Bool.eq_iff_iff]; simp) | (intro hx; exact absurd (hx.trans HV1.out.symm) hv3) | (intro hx; exact absurd (hx.trans HV1.out.symm) hv2))
        · go_wp2
          go_ret
          refine ⟨?_, HC3.out.bl⟩
          rw [HRR.out]
          unfold fitsM
          rw [← HWAS.out.1, ← HWAS.out.2]
          exact ret_eq (by
            simp [HV1.out, hg, hv2]
            try first | done | omega | (rw [Bool.eq_iff_iff]; simp) | (intro hx; exact absurd (hx.trans HV1.out.symm) hv3) | (intro hx; exact absurd (hx.trans HV1.out.symm) hv2))
    · skip
      refine wp_region_tree (fun w' => (w'.cell? ⟨w.heap.size, 0, none⟩ = some (.int .u64 c.version))) (.t 0 (.t 1 (.t 2 (.a 3 (.t 4 (.t 5 (.t 6 .nil))))))) (by kernel_rfl) (by kernel_rfl) (by kernel_rfl) ?_ ?_
      · exact (by first | exact X0.out | exact X3.out)
      iterate 3
       apply wpT_takeK rfl _ (by first | rfl | (simp [Region.wanted, yielded]; done))
       · intro w' hS
         have s0 := hS
         clear hS
         go_simp
         try rfl
       intro K hK
       go_simp
       refine hK _ ?_
       clear hK K
      refine wpT_alone rfl ?_
      focus (go_wp2_with (first | (go_at_call 9; refine (sversion_any wc.drew B L cv ms cs (H1.out.below HBL.out.drew)).mono ?_; rintro x w3 ⟨rfl, hb⟩; have HC3 := Lib.hid (HC.out.next ((Below.refl _ _).drew.trans hb)); have HBL3 := Lib.hid (HBL.out.trans (((Below.refl wc.heap.size wc).drew.trans hb).mono HBL.out.size)); have X3 := Lib.hid (cells_of_block HC3.out.ox 0 (.int .u64 c.version) (cellsEv_0 c)).1; clear hb) | fail))
      refine QS_normal (by first | exact X0.out | exact X3.out) (fun _ => ?_)
      iterate 3
       apply wpT_takeK rfl _ (by first | rfl | (simp [Region.wanted, yielded]; done))
       · intro w' hS
         have s0 := hS
         clear hS
         go_simp
         try rfl
       intro K hK
       go_simp
       refine hK _ ?_
       clear hK K
      refine wpT_end ?_
      go_wp2
      go_ret
      refine ⟨?_, HC3.out.bl⟩
      rw [HRR.out]
      unfold fitsM
      rw [← HWAS.out.1, ← HWAS.out.2]
      exact ret_eq (by
        simp [hv1]
        try first | done | omega | (rw [Bool.eq_iff_iff]; simp) | (intro hx; exact absurd (hx.trans HV1.out.symm) hv3) | (intro hx; exact absurd (hx.trans HV1.out.symm) hv2))

end Go.Proofs.Ytobpohjhhelljaa
