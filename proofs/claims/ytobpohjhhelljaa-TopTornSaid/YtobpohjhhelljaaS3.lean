/- Layer 6 (store): do: the program's. -/
import Derived.Test.YtobpohjhhelljaaS2
namespace Go.Proofs.Ytobpohjhhelljaa
open Go.RowKit
set_option linter.unusedVariables false
set_option linter.unusedSimpArgs false


/-- what a change makes of the objects -/
def doM (ms : List (GKey × Obj)) (e : Ev) : List (GKey × Obj) := if e.gone then assocDel ms (keyO e.obj) else assocPut ms (keyO e.obj) e.obj
def DoPost (w : World) (B : Nat) (L : SLoc) (cv : Value) (ms : List (GKey × Obj)) (cs : List Ev) (e : Ev) (x : Ending) (w' : World) : Prop :=
  x = .returned (.tuple #[]) ∧ ∃ cv', SM w' B L cv' (doM ms e) (cs ++ [e]) ∧ Keeps (L.mine cv) w w'

theorem SM.setM {w : World} {B : Nat} {L : SLoc} {cv : Value} {ms ms' : List (GKey × Obj)} {cs : List Ev} (h : SM w B L cv ms cs) {es : Array MapEntry} {c : Nat} (hr : MapRep es c encO ms') : SM (Wset w L.m (.map es c)) B L cv ms' cs := by
  obtain ⟨n1, n2, n3⟩ := h.ne
  exact ⟨(Wset_ne n1).trans h.hd, ⟨es, c, Wset_same h.lt.2, hr⟩, ownsRow_of_heap h.ch fun k hk => Wset_ne (by rintro rfl; exact n3 hk), h.lo⟩
theorem SM.grown {w wy : World} {B : Nat} {L : SLoc} {cv : Value} {ms : List (GKey × Obj)} {cs : List Ev} (h : SM w B L cv ms cs) (hg : w.grownBy wy cv.ownBlock) : wy.heap[L.p]? = some (.cells #[.map (some L.m), cv, .pointer (some ⟨L.g, 0, none⟩)] 75 (0, 0)) :=
  (hg.block L.p h.lt.1 (fun e => h.ne.2.1 e.symm)).trans h.hd
/-- the slice of changes grown, and stored -/
theorem SM.app {w wy : World} {B : Nat} {L : SLoc} {cv cv' : Value} {ms : List (GKey × Obj)} {cs cs' : List Ev} (h : SM w B L cv ms cs) (ho : OwnE wy B cv' cs') (hg : w.grownBy wy cv.ownBlock) : SM (wy.setCell ⟨L.p, 1, none⟩ cv') B L cv' ms cs' := by
  obtain ⟨n1, n2, n3⟩ := h.ne
  obtain ⟨es, c, h1, h2⟩ := h.mp
  have hp : wy.heap[L.p]? = some (.cells #[.map (some L.m), cv, .pointer (some ⟨L.g, 0, none⟩)] 75 (0, 0)) := (hg.block L.p h.lt.1 (fun e => n2 e.symm)).trans h.hd
  have hm : wy.heap[L.m]? = some (.map es c) := (hg.block L.m h.lt.2 (fun e => n3 e.symm)).trans h1
  refine ⟨heap_setCell_same hp, ⟨es, c, (heap_setCell_ne (a := ⟨L.p, 1, none⟩) (fun e => n1 e.symm)).trans hm, h2⟩, ownsRow_of_heap ho fun k hk => heap_setCell_ne (a := ⟨L.p, 1, none⟩) ?_, h.lo⟩
  rintro rfl
  obtain ⟨_, _, h3⟩ := ownsRow_cells ho hk
  rw [hp] at h3
  cases h3

set_option maxRecDepth 100000 in
set_option maxHeartbeats 4000000 in
theorem sdo_any (w : World) (B : Nat) (L : SLoc) (cv : Value) (ms : List (GKey × Obj)) (cs : List Ev) (h : SM w B L cv ms cs) (e : Ev) (hl : cs.length ≤ 100000) (hB : B ≤ w.heap.size) :
    Calls Try.prog 55 #[.pointer (some ⟨L.p, 0, none⟩), .agg (cellsEv e)] w (DoPost w B L cv ms cs e) := by
  have hb0 : Below w.heap.size w (w.alloc (.cells (cellsEv e) 69)) := (Below.refl _ w).alloc (Nat.le_refl _) _
  have H0 := Lib.hid (h.below hb0)
  have HX := Lib.hid (EvBox.mk (w := w.alloc (.cells (cellsEv e) 69)) (b := w.heap.size) (e := e) heap_alloc_eq)
  have HB := Lib.hid hb0
  have hpb := h.lt.1
  clear hb0
  go_enter Try.func55, Try.ntmps55
  go_upto_region 2 with (first
    | refine wpList_loadObjAt rfl _ rfl w.heap.size 2 rfl e.obj HX.out.obj ?_
    | (go_at_call 46; refine (key_any e.obj _).mono ?_; rintro x w1 ⟨rfl, hb⟩; have H1 := Lib.hid (H0.out.below hb); have HX1 := Lib.hid (EvBox.mk ((hb.block _ (heap_lt HX.out.heap)).trans HX.out.heap)); have HB1 := Lib.hid (HB.out.trans (hb.mono HB.out.size)); clear hb H0 HX HB)
    | fail)
  have hkb : (w1.alloc (.cells #[.int .u8 e.obj.kind, .string e.obj.name] 45)).heap[w1.heap.size]? = some (.cells #[.int .u8 e.obj.kind, .string e.obj.name] 45 (0, 0)) := heap_alloc_eq
  have hb3 : Below w1.heap.size w1 (w1.alloc (.cells #[.int .u8 e.obj.kind, .string e.obj.name] 45)) := (Below.refl _ _).alloc (Nat.le_refl _) _
  have H3 := Lib.hid (H1.out.below hb3)
  have HX3 := Lib.hid (EvBox.mk ((hb3.block _ (heap_lt HX1.out.heap)).trans HX1.out.heap))
  have HB3 := Lib.hid (HB1.out.trans (hb3.mono HB1.out.size))
  clear hb3 H1 HX1 HB1
  generalize hkbN : w1.heap.size = kb at *
  generalize hW3 : w1.alloc (.cells #[.int .u8 e.obj.kind, .string e.obj.name] 45) = W3 at *
  clear hkbN hW3 w1
  obtain ⟨es, cl, hm3, hr⟩ := H3.out.mp
  obtain ⟨p0, q0⟩ := cells_of_block H3.out.hd 0 (.map (some L.m)) rfl
  obtain ⟨k0, j0⟩ := cells_of_block hkb 0 (.int .u8 e.obj.kind) rfl
  obtain ⟨k1, j1⟩ := cells_of_block hkb 1 (.string e.obj.name) rfl
  obtain ⟨g1, y1⟩ := cells_of_block HX3.out.heap 1 (.bool e.gone) (cellsEv_1 e)
  go_upto_if 9 with fail
  go_cut [] (fun wx => Hid (SM wx B L cv (doM ms e) cs) ∧ Hid (EvBox wx w.heap.size e) ∧ Hid (Keeps (L.mine cv) w wx))
  case first =>
    cases hgn : e.gone with
    | false =>
      rw [hgn] at g1
      obtain ⟨es', cl', hr', hup⟩ := run_mapUpdate keyOK undMap hr (keyO e.obj) e.obj
      have hUd : (Instr.mapUpdate 73 (.map (some L.m)) (.agg #[.int .u8 e.obj.kind, .string e.obj.name]) (.agg (cellsO e.obj))).run Try.prog W3.drew = .ok () (Wset W3.drew L.m (.map es' cl')) := hup L.m W3.drew hm3
      clear hup
      go_upto_region 4 with fail
      refine wp_region_T 7 (by kernel_rfl) (by kernel_rfl) ?_
      simp only [List.take_succ_cons, List.take_zero, List.drop_succ_cons, List.drop_zero]
      iterate 6
       refine wpStill_step (fun K hK => ?_)
       go_simp
       refine hK _ ?_
       clear hK K
      refine wpStill_val (by first | rfl | (simp [Region.wanted, yielded]; done)) (exec_loadObjAt e.obj rfl rfl (fun i => HX3.out.obj i)) ?_
      refine wpStill_nil ?_
      refine wpList_upd rfl _ _ _ _ rfl (some L.m) _ _ rfl rfl rfl hUd ?_
      go_wp2_with fail
      go_meet
      refine ⟨Lib.hid ?_, Lib.hid ?_, Lib.hid ?_⟩
      · have : doM ms e = assocPut ms (keyO e.obj) e.obj := by unfold doM; rw [hgn]; rfl
        rw [this]
        exact (H3.out.below (Below.refl _ _).drew).setM hr'
      · exact ⟨(Wset_ne (fun x => by have h1 := HX3.out.heap; rw [x] at h1; rw [hm3] at h1; cases h1)).trans HX3.out.heap⟩
      · exact ((Keeps.of_below HB3.out).drew).wset (fun _ => .inr (.inl rfl)) _
    | true =>
      rw [hgn] at g1
      obtain ⟨es', cl', hr', hdel⟩ := run_mapDelete keyOK undMap hr (keyO e.obj)
      have hD : (Builtin.delete_ #[73, 45] 0 #[.map (some L.m), .agg #[.int .u8 e.obj.kind, .string e.obj.name]]).run Try.prog W3.drew = .ok (.tuple #[]) (Wset W3.drew L.m (.map es' cl')) := hdel L.m W3.drew #[73, 45] 0 rfl hm3
      clear hdel
      go_upto_region 3 with fail
      refine wp_region_T 5 (by kernel_rfl) (by kernel_rfl) ?_
      simp only [List.take_succ_cons, List.take_zero, List.drop_succ_cons, List.drop_zero]
      iterate 5
       refine wpStill_step (fun K hK => ?_)
       go_simp
       refine hK _ ?_
       clear hK K
      refine wpStill_nil ?_
      refine wpList_del rfl _ _ _ _ rfl (some L.m) _ rfl rfl hD ?_
      go_wp2_with fail
      go_meet
      refine ⟨Lib.hid ?_, Lib.hid ?_, Lib.hid ?_⟩
      · have : doM ms e = assocDel ms (keyO e.obj) := by unfold doM; rw [hgn]; rfl
        rw [this]
        exact (H3.out.below (Below.refl _ _).drew).setM hr'
      · exact ⟨(Wset_ne (fun x => by have h1 := HX3.out.heap; rw [x] at h1; rw [hm3] at h1; cases h1)).trans HX3.out.heap⟩
      · exact ((Keeps.of_below HB3.out).drew).wset (fun _ => .inr (.inl rfl)) _
  case rest =>
    obtain ⟨HM, HX6, HK⟩ := hcut
    clear H3 HX3 HB3 hm3 hr p0 q0 k0 j0 k1 j1 g1 y1 hkb
    generalize wc = w6 at *
    -- the changes grow
    have hxl := heap_lt HX6.out.heap
    have hpl := HM.out.lt.1
    have hpx : L.p ≠ w.heap.size := by omega
    obtain ⟨p5, r5⟩ := cells_of_block HM.out.hd 1 cv rfl
    have hbx : (w6.drew.alloc (.cells (cellsEv e) 69)).heap[w6.heap.size]? = some (.cells (cellsEv e) 69 (0, 0)) := heap_alloc_eq
    have hb7 : Below w6.heap.size w6 (w6.drew.alloc (.cells (cellsEv e) 69)) := (Below.refl _ _).drew.alloc (Nat.le_refl _) _
    have HM7 := Lib.hid (HM.out.below hb7)
    obtain ⟨p7, r7⟩ := cells_of_block HM7.out.hd 1 cv rfl
    have hsz6 := HK.out.size
    have kx : ∀ wz : World, wz.heap[w.heap.size]? = w6.heap[w.heap.size]? → ∀ k, wz.cell? ⟨w.heap.size, k, none⟩ = (cellsEv e)[k]? := fun wz hz => cells_all (hz.trans HX6.out.heap)
    have KX := Lib.hid kx
    have hX7 : (w6.drew.alloc (.cells (cellsEv e) 69)).heap[w.heap.size]? = w6.heap[w.heap.size]? := heap_alloc_lt (w := w6.drew) hxl
    have HX7 := Lib.hid hX7
    have HC6 := Lib.hid hxl
    have hnx : some w.heap.size ≠ cv.ownBlock := by
      intro e2
      obtain ⟨_, _, h3⟩ := ownsRow_cells h.ch e2.symm
      exact absurd (heap_lt h3) (Nat.lt_irrefl _)
    have HNX := Lib.hid hnx
    clear kx hX7 hxl hnx h hpb
    go_upto_region 5 with fail
    refine wp_region_tree (fun w' => (∀ k, w'.cell? ⟨w.heap.size, k, none⟩ = (cellsEv e)[k]?)) (.t 0 (.t 1 (.t 2 (.t 3 (.t 5 (.f 4 (.a 6 (.a 7 (.t 8 (.t 9 (.a 10 .nil))))) 6 (.a 4 (.a 7 (.t 8 (.t 9 (.a 10 .nil))))))))))) (by kernel_rfl) (by kernel_rfl) (by kernel_rfl) ?_ ?_
    · exact (by first | exact KX.out _ rfl | exact KX.out _ HX7.out | exact KX.out _ HX8.out | exact KX.out _ ((heap_setCell_ne (a := ⟨L.p, 1, none⟩) (fun x => hpx x.symm)).trans HX8.out))
    iterate 4
     apply wpT_takeK rfl _ (by first | rfl | (simp [Region.wanted, yielded]; done))
     · intro w' hS
       have s0 := hS
       clear hS
       go_simp
       try rfl
     intro K hK
     go_simp
     refine hK _ ?_
     clear hK K
    refine wpT_takeK rfl (.agg (cellsEv e)) (by first | rfl | (simp [Region.wanted, yielded]; done)) ?_ ?_
    · intro w' hS
      have s0 := hS
      exact exec_loadEv e rfl rfl s0
    intro K hK
    go_simp
    refine hK _ ?_
    clear hK K
    refine wpT_fork rfl rfl ?_ ?_
    focus go_wp2
    refine QS_normal (by first | exact KX.out _ rfl | exact KX.out _ HX7.out | exact KX.out _ HX8.out | exact KX.out _ ((heap_setCell_ne (a := ⟨L.p, 1, none⟩) (fun x => hpx x.symm)).trans HX8.out)) (fun _ => ?_)
    refine wpT_alone rfl ?_
    focus (refine wpList_sliceEv rfl _ rfl e rfl ?_; go_wp2)
    refine QS_normal (by first | exact KX.out _ rfl | exact KX.out _ HX7.out | exact KX.out _ HX8.out | exact KX.out _ ((heap_setCell_ne (a := ⟨L.p, 1, none⟩) (fun x => hpx x.symm)).trans HX8.out)) (fun _ => ?_)
    refine wpT_alone rfl ?_
    focus (refine wpList_app_ev rfl _ _ rfl B cv cs rfl HM7.out.ch w6.heap.size e rfl hbx (by omega) (by simp; omega) ?_; intro cv' w8 hok hgr; obtain ⟨ca, ck, hcv, _⟩ := OwnE.evs hok; subst hcv; have H8 := Lib.hid (HM7.out.app hok hgr); have HG := Lib.hid hgr; have HX8 := Lib.hid ((hgr.block _ (Nat.lt_of_lt_of_le HC6.out hb7.size) HNX.out).trans HX7.out); obtain ⟨s81, s82⟩ := cells_of_block (HM7.out.grown hgr) 1 cv rfl; clear hok hgr; go_wp2)
    refine QS_normal (by first | exact KX.out _ rfl | exact KX.out _ HX7.out | exact KX.out _ HX8.out | exact KX.out _ ((heap_setCell_ne (a := ⟨L.p, 1, none⟩) (fun x => hpx x.symm)).trans HX8.out)) (fun _ => ?_)
    iterate 2
     apply wpT_takeK rfl _ (by first | rfl | (simp [Region.wanted, yielded]; done))
     · intro w' hS
       have s0 := hS
       clear hS
       go_simp
       try rfl
     intro K hK
     go_simp
     refine hK _ ?_
     clear hK K
    refine wpT_alone rfl ?_
    focus go_wp2
    refine QS_normal (by first | exact KX.out _ rfl | exact KX.out _ HX7.out | exact KX.out _ HX8.out | exact KX.out _ ((heap_setCell_ne (a := ⟨L.p, 1, none⟩) (fun x => hpx x.symm)).trans HX8.out)) (fun _ => ?_)
    refine wpT_end ?_
    rotate_left
    focus (refine wpList_sliceEv rfl _ rfl e rfl ?_; go_wp2)
    refine QS_normal (by first | exact KX.out _ rfl | exact KX.out _ HX7.out | exact KX.out _ HX8.out | exact KX.out _ ((heap_setCell_ne (a := ⟨L.p, 1, none⟩) (fun x => hpx x.symm)).trans HX8.out)) (fun _ => ?_)
    refine wpT_alone rfl ?_
    focus go_wp2
    refine QS_normal (by first | exact KX.out _ rfl | exact KX.out _ HX7.out | exact KX.out _ HX8.out | exact KX.out _ ((heap_setCell_ne (a := ⟨L.p, 1, none⟩) (fun x => hpx x.symm)).trans HX8.out)) (fun _ => ?_)
    refine wpT_alone rfl ?_
    focus (refine wpList_app_ev rfl _ _ rfl B cv cs rfl HM7.out.ch w6.heap.size e rfl hbx (by omega) (by simp; omega) ?_; intro cv' w8 hok hgr; obtain ⟨ca, ck, hcv, _⟩ := OwnE.evs hok; subst hcv; have H8 := Lib.hid (HM7.out.app hok hgr); have HG := Lib.hid hgr; have HX8 := Lib.hid ((hgr.block _ (Nat.lt_of_lt_of_le HC6.out hb7.size) HNX.out).trans HX7.out); obtain ⟨s81, s82⟩ := cells_of_block (HM7.out.grown hgr) 1 cv rfl; clear hok hgr; go_wp2)
    refine QS_normal (by first | exact KX.out _ rfl | exact KX.out _ HX7.out | exact KX.out _ HX8.out | exact KX.out _ ((heap_setCell_ne (a := ⟨L.p, 1, none⟩) (fun x => hpx x.symm)).trans HX8.out)) (fun _ => ?_)
    iterate 2
     apply wpT_takeK rfl _ (by first | rfl | (simp [Region.wanted, yielded]; done))
     · intro w' hS
       have s0 := hS
       clear hS
       go_simp
       try rfl
     intro K hK
     go_simp
     refine hK _ ?_
     clear hK K
    refine wpT_alone rfl ?_
    focus go_wp2
    refine QS_normal (by first | exact KX.out _ rfl | exact KX.out _ HX7.out | exact KX.out _ HX8.out | exact KX.out _ ((heap_setCell_ne (a := ⟨L.p, 1, none⟩) (fun x => hpx x.symm)).trans HX8.out)) (fun _ => ?_)
    refine wpT_end ?_
    rotate_left
    all_goals
      go_wp2_with fail
      have h8 := H8.out
      rw [List.length_append] at h8
      refine bodyPost_ret (results_none rfl _ _ _) rfl ⟨rfl, _, h8, ?_⟩
      have k1 : Keeps (L.mine cv) w (w6.drew.alloc (.cells (cellsEv e) 69)) := HK.out.trans (Keeps.of_below hb7)
      have k2 := k1.step (grownBy_keeps' HG.out) (fun i hi hf hx => hf (.inr (.inr hx.symm)))
      exact k2.setCell (p := ⟨L.p, 1, none⟩) (fun _ => .inl rfl) _

end Go.Proofs.Ytobpohjhhelljaa
