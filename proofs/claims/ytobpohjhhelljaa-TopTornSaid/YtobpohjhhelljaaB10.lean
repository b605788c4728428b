/- Layer 5 (blocks): a log's Append, where there is room. -/
import Derived.Test.YtobpohjhhelljaaB8
import Derived.Test.YtobpohjhhelljaaTree
import Derived.OwnWalk
namespace Go.Proofs.Ytobpohjhhelljaa
open Go.RowKit
set_option linter.unusedVariables false
set_option linter.unusedSimpArgs false


open Go.Shelf
attribute [local go_sem] Oper.semAt_some

/-- rows of bytes that lie from block B on, the call's own -/
def OwnRows (w : World) (B : Nat) (v : Value) (rs : List Bs) : Prop := ∃ vs : List Value, vs.length = rs.length ∧ w.ownsRow B 41 1 v rs.length vs ∧ ∀ i (h : i < rs.length) (h' : i < vs.length), OwnB w B vs[i] rs[i]
theorem OwnRows.nil (w : World) (B : Nat) : OwnRows w B (.slice none 0 0) [] := ⟨[], rfl, World.ownsRow_nil _ _ _ _, fun i h => by simp at h⟩
theorem OwnRows.same {w w' : World} {B : Nat} {v : Value} {rs : List Bs} (h : OwnRows w B v rs) (hs : CellsSame w w') : OwnRows w' B v rs := by
  obtain ⟨vs, h1, h2, h3⟩ := h
  exact ⟨vs, h1, hs.ownsRow h2, fun i a b => hs.ownsRow (h3 i a b)⟩
theorem OwnRows.lv {w : World} {B : Nat} {v : Value} {rs : List Bs} (h : OwnRows w B v rs) : ∃ a c, v = .slice a rs.length c := by
  obtain ⟨_, _, ⟨_, ⟨rfl, h0⟩ | ⟨g, c, _, rfl, _⟩⟩, _⟩ := h
  · exact ⟨none, 0, by rw [h0]⟩
  · exact ⟨_, _, rfl⟩

theorem und_BB : Try.prog.underlying 106 = some (.slice 41) := by kernel_rfl
theorem info_B : (Try.prog.info? 41).map (fun i => (i.zero, i.size, i.bytes)) = some (some (.slice none 0 0), 1, 24) := by kernel_rfl

/-- a row of bytes is appended to the rows -/
theorem run_app_row {w : World} {B g c : Nat} {v u : Value} {rs : List Bs} {r : Bs} (ty : TypeId) (hown : OwnRows w B v rs) (hu : OwnB w B u r) (hg : w.cell? ⟨g, 0, none⟩ = some u) (hlim : rs.length + 1 ≤ 1000000) (hB : B ≤ w.heap.size) :
    ∃ v' w', (Builtin.append_ #[106, 106] ty #[v, .slice (some ⟨g, 0, none⟩) 1 c]).run Try.prog w = .ok v' w' ∧ OwnRows w' B v' (rs ++ [r]) ∧ w.grownBy w' v.ownBlock := by
  obtain ⟨i0, hi, hz0, hz1, hz2⟩ := info_parts info_B
  obtain ⟨vs, h1, h2, h3⟩ := hown
  have hu1 : u.oneCell' = true := by
    obtain ⟨a, c, rfl⟩ := hu.lv
    rfl
  obtain ⟨v', w', h4, h5, h6, _⟩ := run_append_own (w := w) B 106 ty 41 i0 (.slice none 0 0) 1 24 und_BB hi hz0 hz1 hz2 rfl (by decide) v _ _ h2 ⟨g, 0, none⟩ 1 c [u] rfl
    (fun j y hy => by
      have hj : j = 0 := by have := (List.getElem?_eq_some_iff.1 hy).1; simpa using this
      subst hj
      simp at hy
      rw [Addr.add_lit, ← hy]; exact hg) (fun y hy => by simp at hy; rw [hy]; exact hu1) (by unfold maxLen; omega) (by omega) hB
  have keep : ∀ (x : Value) (l : Bs), OwnB w B x l → OwnB w' B x l := fun x l hx => ownsRow_of_heap hx fun k hk => h6.block k (hx.lt k hk).2 fun e => by
    obtain ⟨_, ⟨rfl, _⟩ | ⟨g1, _, _, rfl, _, e1, _⟩⟩ := hx
    · simp [Value.ownBlock] at hk
    obtain ⟨_, ⟨rfl, _⟩ | ⟨g2, _, _, rfl, _, e2, _⟩⟩ := h2
    · simp [Value.ownBlock] at e
    simp only [Value.ownBlock, Option.some.injEq] at hk e
    subst hk; subst e
    rw [e1] at e2
    simp at e2
  refine ⟨v', w', h4, ⟨vs ++ [u], by simp [h1], by simpa using h5, fun i ha hb => ?_⟩, h6⟩
  by_cases hir : i < rs.length
  · rw [List.getElem_append_left (by omega), List.getElem_append_left hir]
    exact keep _ _ (h3 i hir (by omega))
  · have : i = rs.length := by simp at ha; omega
    subst this
    rw [List.getElem_append_right (by omega), List.getElem_append_right (by omega)]
    simpa using keep _ _ hu
theorem wpList_app_row {ops : Array Oper} {rest : List Oper} {o : Oper} {a : Act} {w : World} {Q : Exit → Act → World → Prop} (hgd : o.guard = none) (s x : Operand)
    (ho : o.op = .call { callee := .builtin .append, args := #[s, x], argTypes := #[106, 106] }) (B : Nat) (v : Value) (rs : List Bs) (hs : a.eval s = v) (hown : OwnRows w B v rs) (g c : Nat) (u : Value) (r : Bs) (hx : a.eval x = .slice (some ⟨g, 0, none⟩) 1 c) (hu : OwnB w B u r) (hg : w.cell? ⟨g, 0, none⟩ = some u)
    (hlim : rs.length + 1 ≤ 1000000) (hB : B ≤ w.heap.size) (h : ∀ v' w', OwnRows w' B v' (rs ++ [r]) → w.grownBy w' v.ownBlock → wpList Try.prog ops Q rest (a.put o.dst v') w') : wpList Try.prog ops Q (o :: rest) a w := by
  refine wpList_plain hgd fun K hK => ?_
  obtain ⟨v', w', hr, h1, h2⟩ := run_app_row (c := c) o.type hown hu hg hlim hB
  unfold Oper.wp
  simp [execOp, ho, resolve, invoke, builtin, hs, hx, hr, Result.andThen]
  exact hK _ _ (h v' w' h1 h2)
theorem OwnRows.lt {w : World} {B : Nat} {v : Value} {rs : List Bs} (h : OwnRows w B v rs) : ∀ k, v.ownBlock = some k → B ≤ k ∧ k < w.heap.size := by
  obtain ⟨_, _, h, _⟩ := h
  exact h.lt

theorem OwnRows.kept {w w' : World} {B : Nat} {v : Value} {rs : List Bs} (h : OwnRows w B v rs) (hk : ∀ k, B ≤ k → k < w.heap.size → w'.heap[k]? = w.heap[k]?) : OwnRows w' B v rs := by
  obtain ⟨vs, h1, h2, h3⟩ := h
  exact ⟨vs, h1, ownsRow_of_heap h2 fun k e => hk k (h2.lt k e).1 (h2.lt k e).2, fun i a b => ownsRow_of_heap (h3 i a b) fun k e => hk k ((h3 i a b).lt k e).1 ((h3 i a b).lt k e).2⟩
theorem keepsOthers_row {W W' : World} {B : Nat} {v : Value} {rs : List Bs} (h : Keeps (fun i => some i = v.ownBlock) W W') (ho : OwnRows W B v rs) : KeepsOthers W W' :=
  ⟨h.size, fun k o hk hc => (h.block k (heap_lt hk) fun e => by
    obtain ⟨_, _, ⟨_, ⟨rfl, _⟩ | ⟨g, _, _, rfl, _, hg, _⟩⟩, _⟩ := ho
    · simp [Value.ownBlock] at e
    · simp only [Value.ownBlock, Option.some.injEq] at e
      subst e
      rw [hg] at hk
      cases hk
      simp [Go.Obj.isCells] at hc).trans hk⟩
/-- what a round that appends to the caller's rows leaves -/
theorem row_round {w W w2 : World} {v v2 : Value} {rs : List Bs} {r : Bs} (hb : Below w.heap.size w W) (hW : w.heap.size + 4 ≤ W.heap.size) (ho : OwnRows W (w.heap.size + 2) v rs) (hc : W.heap[w.heap.size]? = some (.cells #[v] 106 (0, 0)))
    (hk : Keeps (fun i => some i = v.ownBlock) W w2) (ho2 : OwnRows w2 (w.heap.size + 2) v2 (rs ++ [r])) :
    KeepsOthers W (w2.setCell ⟨w.heap.size, 0, none⟩ v2) ∧ Keeps (fun i => ¬ (i < w.heap.size ∨ i = w.heap.size + 1)) W (w2.setCell ⟨w.heap.size, 0, none⟩ v2) ∧
      (∃ ov, (w2.setCell ⟨w.heap.size, 0, none⟩ v2).heap[w.heap.size]? = some (.cells #[ov] 106 (0, 0)) ∧ OwnRows (w2.setCell ⟨w.heap.size, 0, none⟩ v2) (w.heap.size + 2) ov (rs ++ [r])) ∧ Below w.heap.size w (w2.setCell ⟨w.heap.size, 0, none⟩ v2) := by
  have hrow : ∀ k, some k = v.ownBlock → w.heap.size + 2 ≤ k := fun k e => (ho.lt k e.symm).1
  have hc2 := (hk.block _ (heap_lt hc) (fun e => by have := hrow _ e; omega)).trans hc
  refine ⟨(keepsOthers_row hk ho).trans (KeepsOthers.setCell _ _ _), ?_, ⟨v2, by rw [heap_setCell_same hc2]; rfl, ho2.kept fun k h1 _ => heap_setCell_ne (fun e => by simp at e; omega)⟩, ?_⟩
  · refine (hk.mono fun i _ e h => ?_).setCell (p := ⟨w.heap.size, 0, none⟩) (fun _ h => by simp at h) _
    have := hrow i e
    omega
  · exact (hb.trans ⟨hk.os, hk.tape, hk.output, hk.size, fun k hkk => hk.block k (by omega) (fun e => by have := hrow k e; omega)⟩).setCell (p := ⟨w.heap.size, 0, none⟩) (Nat.le_refl _) _

set_option maxRecDepth 100000 in
set_option maxHeartbeats 2000000 in
theorem records_log (w : World) (B p : Nat) (v : Value) (n : Nat) (bs : Bs) (last most : Nat) (rs : List Bs) (h : LogAt w B p v n bs last most) (hrs : Parsed bs rs) :
    Calls Try.prog 52 #[.pointer (some ⟨p, 0, none⟩)] w fun e w' => ∃ u, e = .returned u ∧ OwnRows w' w.heap.size u rs ∧ Below w.heap.size w w' := by
  have H := Lib.hid h
  have HRS := Lib.hid hrs
  have hm := h.hm
  obtain ⟨a, c, rfl⟩ := h.lv
  clear h hrs
  refine calls_of_wp_marks Try.func52 rfl ?_
  simp only [Try.ntmps52, List.size_toArray, List.length_cons, List.length_nil, Nat.reduceAdd, Nat.reduceSub, Array.replicate_succ, Array.replicate_zero, List.push_toArray, List.append_toArray, List.nil_append, List.cons_append]
  go_wp2_with (go_at_call 40; refine (records_any _ _ ⟨_, rfl⟩).mono ?_; rintro e w' ⟨rfl, rfl⟩)
  refine wp_range_all (gf := 63) (lb := #[.pointer (some ⟨w.heap.size + 1, 0, none⟩)]) rfl (enters_of Try.func63 (by kernel_rfl) rfl) 5000 encR (fun _ => rfl) AtR (AllR bs) (Keeps (fun i => ¬ (i < w.heap.size ∨ i = w.heap.size + 1)))
    (fun x W l o o' h hl ho => atR_putObj h hl ho) (fun h k => h.trans k) (fun W l o o' hl h ho => ⟨rfl, rfl, rfl, by simp, fun k hk hf => World.putObj_heap_other (by simp at hl; have := Classical.not_not.1 hf; omega)⟩)
    (fun pre W => (∃ ov, W.heap[w.heap.size]? = some (.cells #[ov] 106 (0, 0)) ∧ OwnRows W (w.heap.size + 2) ov (ds pre)) ∧ Below w.heap.size w W)
    (fun pre W W' hI hb => ⟨hI.1.imp fun ov h => ⟨(hb.block _ (heap_lt h.1)).trans h.1, h.2.same (CellsSame.of_below hb)⟩, hI.2.trans (hb.mono hI.2.size)⟩)
    (fun pre W l o o' hl hI h ho => ⟨hI.1.imp fun ov h1 => ⟨(World.putObj_heap_other (by simp at hl; omega)).trans h1.1, h1.2.same (CellsSame.putObj h ho)⟩, below_putObj hI.2 (by simp at hl; omega)⟩)
    ⟨⟨_, (heap_alloc_lt (by simp)).trans heap_alloc_eq, OwnRows.nil _ _⟩, ((Below.refl _ w).alloc (Nat.le_refl _) _).alloc (by simp) _⟩ ?seq ?a1 ?assign ?body ?done
  case assign =>
    intro l x W K hK
    dsimp only [encR]
    gi_wp2
    exact hK
  case seq =>
    intro l J W hW hWs hJ hY h0
    have hW0 : Below w.heap.size w W := (((Below.refl _ w).alloc (Nat.le_refl _) _).alloc (by simp) _).trans (hW.mono (by simp; omega))
    exact rec1_any B p (.slice a n c) n bs last most (w.heap.size + 1) l W (H.out.below hW0) ((hW.block _ (by simp)).trans (by have := heap_alloc_eq (w := w.alloc (.cells #[.slice none 0 0] 106)) (o := .cells #[.pointer (some ⟨p, 0, none⟩)] 38); simpa using this)) _ (.inl H.out.lt.1) (.inr rfl) (fun k hk => .inl (H.out.lt.2 k hk).2) J hJ hY h0
  case body =>
    rintro l pre x W hWs ⟨⟨ov, hc, ho⟩, hb⟩ hat hN
    obtain ⟨c0, f0⟩ := cells_of_block hc 0 ov rfl
    have HB := Lib.hid hb
    have HO := Lib.hid ho
    have HAt := Lib.hid hat
    obtain ⟨oa, oc, rfl⟩ := ho.lv
    clear hb ho hat
    have hx := HAt.out
    have hW4 : w.heap.size + 4 ≤ W.heap.size := by simp at hWs; omega
    have hpl : (ds pre).length ≤ 5000 := by simp [ds]; omega
    have HC := Lib.hid hc
    have HX := Lib.hid (show IsB W.drew (.slice (some ⟨x.b, x.o, none⟩) x.d.length x.d.length) x.d from .inr ⟨x.b, x.o, _, rfl, Nat.le_refl _, by have := hx.2.1; unfold maxLen; omega, hx.2.2⟩)
    clear hc hx
    have HNb := Lib.hid (show (Value.slice oa (ds pre).length oc).ownBlock ≠ some w.heap.size from fun e => by have := (HO.out.lt _ e).1; omega)
    gi_wp2_with fail
    refine wpIn_region_tree (fun w' => True) (.t 1 (.f 0 (.a 2 (.a 3 (.a 4 (.a 5 .nil)))) 2 (.f 0 (.a 3 (.a 4 (.a 5 .nil))) 3 (.a 0 (.a 4 (.a 5 .nil)))))) (by kernel_rfl) (by kernel_rfl) (by kernel_rfl) (by kernel_rfl) (fun _ _ _ _ _ h => h) (fun h => by obtain ⟨_, _, h⟩ := h; exact h) ?_ ?_
    · exact trivial
    apply wpT_takeK rfl _ (by first | rfl | (simp [Region.wanted, yielded]; done))
    · intro w' hS
      skip
      skip
      go_simp
      try rfl
    intro K hK
    go_simp
    refine hK _ ?_
    clear hK K
    refine wpT_fork rfl rfl ?_ ?_
    focus go_wp2
    refine QS_normal trivial (fun _ => ?_)
    refine wpT_alone rfl ?_
    focus (go_wp2_with (go_at_call 81; refine (cloneB_any x.d _ _ (by have := HAt.out.2.1; omega) HX.out).mono ?_; rintro e w1 ⟨u, rfl, hu, hb1⟩; obtain ⟨au, cu, rfl⟩ := hu.lv; have HU := Lib.hid hu; have HBW := Lib.hid (show Below W.heap.size W w1 from ⟨hb1.os, hb1.tape, hb1.output, hb1.size, hb1.block⟩); have k0 := (hb1.cell (p := ⟨w.heap.size, 0, none⟩) (heap_lt HC.out)).trans c0; have k1 := (hb1.frozen (p := ⟨w.heap.size, 0, none⟩) (heap_lt HC.out)).trans f0; have k2 : ∀ o, (w1.alloc o).cell? ⟨w.heap.size, 0, none⟩ = some (.slice oa (ds pre).length oc) := fun o => (Below.cell ((Below.refl w1.heap.size w1).alloc (Nat.le_refl _) o) (World.block_lt_of_cell? _ _ k0)).trans k0; clear hu hb1))
    refine QS_normal trivial (fun _ => ?_)
    refine wpT_alone rfl ?_
    focus go_wp2
    refine QS_normal trivial (fun _ => ?_)
    refine wpT_alone rfl ?_
    focus ((try simp only [List.getElem_toArray, List.getElem_cons_succ, List.getElem_cons_zero]); refine wpList_app_row rfl _ _ rfl (w.heap.size + 2) _ (ds pre) rfl (HO.out.same (CellsSame.of_below (HBW.out.alloc HBW.out.size _))) w1.heap.size _ _ x.d rfl ((ownsRow_mono HU.out (by have h3 : W.drew.heap.size = W.heap.size := rfl; omega)).alloc _) (cells_of_block heap_alloc_eq 0 _ rfl).1 (by omega) (by have := HBW.out.size; simp; omega) ?_; intro v2 w2 hown hgr; obtain ⟨av, cv, rfl⟩ := hown.lv; have HO2 := Lib.hid hown; have HB2 := Lib.hid (show Keeps (fun i => some i = (Value.slice oa (ds pre).length oc).ownBlock) W w2 from (Keeps.of_below (HBW.out.alloc HBW.out.size _)).trans (grownBy_keeps' hgr)); obtain ⟨m0, n0⟩ := cells_of_block ((HB2.out.block _ (heap_lt HC.out) (fun e => HNb.out e.symm)).trans HC.out) 0 _ rfl; clear hown hgr; go_wp2)
    refine QS_normal trivial (fun _ => ?_)
    refine wpT_alone rfl ?_
    focus go_wp2
    refine QS_normal trivial (fun _ => ?_)
    refine wpT_nil ?_
    rotate_left
    focus (go_wp2_with (go_at_call 81; refine (cloneB_any x.d _ _ (by have := HAt.out.2.1; omega) HX.out).mono ?_; rintro e w1 ⟨u, rfl, hu, hb1⟩; obtain ⟨au, cu, rfl⟩ := hu.lv; have HU := Lib.hid hu; have HBW := Lib.hid (show Below W.heap.size W w1 from ⟨hb1.os, hb1.tape, hb1.output, hb1.size, hb1.block⟩); have k0 := (hb1.cell (p := ⟨w.heap.size, 0, none⟩) (heap_lt HC.out)).trans c0; have k1 := (hb1.frozen (p := ⟨w.heap.size, 0, none⟩) (heap_lt HC.out)).trans f0; have k2 : ∀ o, (w1.alloc o).cell? ⟨w.heap.size, 0, none⟩ = some (.slice oa (ds pre).length oc) := fun o => (Below.cell ((Below.refl w1.heap.size w1).alloc (Nat.le_refl _) o) (World.block_lt_of_cell? _ _ k0)).trans k0; clear hu hb1))
    refine QS_normal trivial (fun _ => ?_)
    refine wpT_fork rfl rfl ?_ ?_
    iterate 2
     focus go_wp2
     refine QS_normal trivial (fun _ => ?_)
     refine wpT_alone rfl ?_
     focus go_wp2
     refine QS_normal trivial (fun _ => ?_)
     refine wpT_alone rfl ?_
     focus ((try simp only [List.getElem_toArray, List.getElem_cons_succ, List.getElem_cons_zero]); refine wpList_app_row rfl _ _ rfl (w.heap.size + 2) _ (ds pre) rfl (HO.out.same (CellsSame.of_below (HBW.out.alloc HBW.out.size _))) w1.heap.size _ _ x.d rfl ((ownsRow_mono HU.out (by have h3 : W.drew.heap.size = W.heap.size := rfl; omega)).alloc _) (cells_of_block heap_alloc_eq 0 _ rfl).1 (by omega) (by have := HBW.out.size; simp; omega) ?_; intro v2 w2 hown hgr; obtain ⟨av, cv, rfl⟩ := hown.lv; have HO2 := Lib.hid hown; have HB2 := Lib.hid (show Keeps (fun i => some i = (Value.slice oa (ds pre).length oc).ownBlock) W w2 from (Keeps.of_below (HBW.out.alloc HBW.out.size _)).trans (grownBy_keeps' hgr)); obtain ⟨m0, n0⟩ := cells_of_block ((HB2.out.block _ (heap_lt HC.out) (fun e => HNb.out e.symm)).trans HC.out) 0 _ rfl; clear hown hgr; go_wp2)
     refine QS_normal trivial (fun _ => ?_)
     refine wpT_alone rfl ?_
     focus go_wp2
     refine QS_normal trivial (fun _ => ?_)
     refine wpT_nil ?_
     rotate_left
    all_goals
      gi_wp2
      have h1 := HO2.out
      simp only [List.length_append, List.length_cons, List.length_nil, Nat.zero_add] at h1
      have h2 := row_round HB.out hW4 HO.out HC.out HB2.out h1
      have h3 : ds (pre ++ [x]) = ds pre ++ [x.d] := by simp [ds]
      rw [← h3] at h2
      exact h2
  case done =>
    rintro D xs W hD ⟨hP, _⟩ ⟨⟨ov, hc, ho⟩, hb⟩ hK
    have hds : ds xs = rs := parsed_unique hP HRS.out
    obtain ⟨c0, f0⟩ := cells_of_block hc 0 ov rfl
    rw [hds] at ho
    obtain ⟨oa, oc, rfl⟩ := ho.lv
    have HO := Lib.hid ho
    have HB := Lib.hid hb
    have HK := Lib.hid hK
    have HD := Lib.hid hD
    clear ho hb hK hD hds hP hc
    go_wp2
    have hD2 : w.heap.size + 2 ≤ D := by have := HD.out; simpa using this
    refine marks_ret rfl HK.out (fun w => results_tmp rfl _ _ _) ⟨_, rfl, ?_, below_putObj HB.out (by omega)⟩
    have h1 := HO.out.same (CellsSame.putObj (o' := .deferred none) HK.out rfl)
    obtain ⟨vs, e1, e2, e3⟩ := h1
    exact ⟨vs, e1, ownsRow_mono e2 (by omega), fun i a b => ownsRow_mono (e3 i a b) (by omega)⟩



open Go.Shelf
attribute [local go_sem] Oper.semAt_some

/-- a block's bytes, out of the beginning of others -/
def blkB (R : Bs) : Bs := R.take 64 ++ List.replicate (64 - R.length) 0
theorem blk_length (R : Bs) : (blkB R).length = 64 := by simp [blkB]; omega

set_option maxRecDepth 100000 in
theorem wpList_copyBlk {ops : Array Oper} {rest : List Oper} {o : Oper} {a : Act} {w : World} {Q : Exit → Act → World → Prop} (hgd : o.guard = none) (d s : Operand)
    (ho : o.op = .call { callee := .builtin .copy, args := #[d, s], argTypes := #[41, 41] }) (g b f c : Nat) (R : Bs) (n q : Nat) (hn : n = R.length) (hq : q = min n 64) (hd : a.eval d = .slice (some ⟨g, 0, none⟩) 64 64) (hs : a.eval s = .slice (some ⟨b, f, none⟩) n c)
    (cur : Array Value) (hg : w.heap[g]? = some (.cells cur 91 (0, 0))) (hcur : cur.toList = cellsU (List.replicate 64 0)) (hsrc : ∀ k (hk : k < R.length), w.cell? ⟨b, f + k, none⟩ = some (.int .u8 (R[k].toNat : Int)))
    (h : ∀ W, W.heap[g]? = some (.cells (cellsU (blkB R)).toArray 91 (0, 0)) → Keeps (fun i => i = g) w W → wpList Try.prog ops Q rest (a.put o.dst (.int .i64 (q : Int))) W) : wpList Try.prog ops Q (o :: rest) a w := by
  subst hn
  subst hq
  refine wpList_plain hgd fun K hK => ?_
  have hz : (Try.prog.info? 5).map (·.size) = some 1 := by
    obtain ⟨i0, hi, _, h1, _⟩ := info_parts info_b
    rw [hi]; simp [h1]
  have hr := run_copy_row (P := Try.prog) w 41 41 o.type 5 g 0 64 64 ⟨b, f, none⟩ R.length c cur 91 (cellsU (R.take 64)) und_B hz hg (by rw [cellsU_length, List.length_take]; exact Nat.min_comm _ _)
    (fun j v hj => by
      have hlt : j < (R.take 64).length := by have := (List.getElem?_eq_some_iff.1 hj).1; simpa using this
      rw [cellsU_get _ j hlt] at hj
      cases hj
      rw [List.length_take] at hlt
      rw [Addr.add_lit, List.getElem_take]
      exact hsrc j (by omega))
    (by have : cur.size = 64 := by rw [← Array.length_toList, hcur]; simp
        simp; omega) (cellsU_one _)
  have hlen : (cellsU (R.take 64)).length = min R.length 64 := by rw [cellsU_length, List.length_take]; exact Nat.min_comm _ _
  have hcells : (cur.toList.take 0 ++ cellsU (R.take 64) ++ cur.toList.drop (0 + (cellsU (R.take 64)).length)).toArray = (cellsU (blkB R)).toArray := by
    rw [hcur, blkB, cellsU_append, List.take_zero, List.nil_append]
    congr 2
    rw [hlen, Nat.zero_add, cellsU, ← List.map_drop, List.drop_replicate, cellsU]
    congr 2
    omega
  rw [hcells, hlen] at hr
  unfold Oper.wp
  simp only [execOp, ho]
  simp [resolve, invoke, builtin, hd, hs, hr, Result.andThen, goInt]
  have hfin := h (w.setRow g (cellsU (blkB R)).toArray) (setRow_heap w g _ _ _ _ hg) ⟨rfl, rfl, rfl, by simp [World.setRow], fun k _ hk => setRow_other _ _ _ _ hk⟩
  exact hK _ _ hfin

theorem foldl_set : ∀ (xs : List Value) (k : Nat) (cs : Array Value), k + xs.length = cs.size → cs.toList.take k ++ xs = ((xs.zipIdx k).foldl (fun (cs : Array Value) (p : Value × Nat) => cs.setIfInBounds (0 + p.2) p.1) cs).toList
  | [], k, cs, h => by simp at h ⊢; rw [List.take_of_length_le (by simp; omega)]
  | x :: xs, k, cs, h => by
    have ih := foldl_set xs (k + 1) (cs.setIfInBounds (0 + k) x) (by simp at h ⊢; omega)
    simp only [List.zipIdx_cons, List.foldl_cons]
    rw [← ih]
    have hk : k < cs.toList.length := by simp at h ⊢; omega
    rw [Array.toList_setIfInBounds, Nat.zero_add, List.take_set, List.take_succ_eq_append_getElem hk, List.set_append_right _ _ (by simp; exact Nat.min_le_left _ _)]
    simp [Nat.min_eq_left (Nat.le_of_lt hk), List.length_take]
    rw [Nat.min_eq_left (by simp at h; omega)]
    simp
theorem run_buildBlk {w : World} (X : Bs) (hX : X.length = 64) : (Instr.buildSlice 81 1 #[(0, .agg (cellsU X).toArray)]).run Try.prog w = .ok (.slice (some ⟨w.heap.size, 0, none⟩) 1 1) (w.alloc (.cells (cellsU X).toArray 91)) := by
  obtain ⟨i0, z, hi, hz0, hz1, hz2, hz3⟩ := info_l
  have hf : ∀ Z : Array Value, Z.size = 64 → Instr.fill (fun i => some (i * 64, 64)) Z [(0, .agg (cellsU X).toArray)] = some (cellsU X).toArray := by
    intro Z hZ
    simp only [Instr.fill, Value.cells, List.size_toArray, cellsU_length, hX, hZ, Nat.zero_mul]
    simp only [ne_eq, not_true_eq_false, decide_false, Nat.zero_add, gt_iff_lt, Nat.lt_irrefl, Bool.or_false, Bool.false_eq_true, if_false, Option.some.injEq]
    apply Array.toList_inj.1
    have h := foldl_set (cellsU X) 0 Z (by simp [hX, hZ])
    rw [List.take_zero, List.nil_append] at h
    rw [← Array.foldl_toList, Array.toList_zipIdx]
    simpa using h.symm
  have hs : (sizeOf 91).run Try.prog w = .ok 64 w := by simp [sizeOf, typeInfo, hi, hz1]
  have hz : (zeroValue 91).run Try.prog w = .ok z w := by simp [zeroValue, typeInfo, hi, hz0]
  have hf2 := hf ((Array.range (1 * 64)).map (z.cells[· % z.cells.size]!)) (by simp)
  simp only [Nat.one_mul] at hf2
  simp [Instr.buildSlice, run_underlying und_L, hs, hz, Result.andThen, hf2, newRow]

def AppendPost (w : World) (B p : Nat) (v : Value) (n' : Nat) (bs' : Bs) (last most : Nat) (e : Ending) (w' : World) : Prop :=
  e = .returned (.int .i64 0) ∧ ∃ u, LogAt w' B p u n' bs' last most ∧ (∀ k, u.ownBlock = some k → v.ownBlock = some k ∨ w.heap.size ≤ k) ∧ Keeps (fun i => i = p ∨ v.ownBlock = some i) w w'

set_option maxRecDepth 100000 in
set_option maxHeartbeats 1000000 in
theorem append_nil (w : World) (a : Option Addr) (n c : Nat) (hn : n ≤ maxLen) : Calls Try.prog 12 #[.pointer none, .slice a n c] w fun e w' => e = .returned (.int .i64 1) ∧ w' = w := by
  unfold maxLen at hn
  refine calls_of_wp_marks Try.func12 rfl ?_
  simp only [Try.ntmps12, List.size_toArray, List.length_cons, List.length_nil, Nat.reduceAdd, Nat.reduceSub, Array.replicate_succ, Array.replicate_zero, List.push_toArray, List.append_toArray, List.nil_append, List.cons_append]
  go_wp2_with (go_at_call 38; refine (need_any _ _).mono ?_; rintro e w' ⟨rfl, rfl⟩)
  exact marks_none rfl (fun w => results_tmp rfl _ _ _) ⟨rfl, rfl⟩
set_option maxRecDepth 100000 in
set_option maxHeartbeats 1000000 in
theorem append_bad (w : World) (p : Nat) (a : Option Addr) (n c : Nat) (hn : n ≤ maxLen) (hb : n < 1 ∨ 1024 < n) : Calls Try.prog 12 #[.pointer (some ⟨p, 0, none⟩), .slice a n c] w fun e w' => e = .returned (.int .i64 3) ∧ w' = w := by
  unfold maxLen at hn
  have hz : need (n : Int) = 0 := by rw [need_nat, needN_bad hb]; rfl
  have HZ := Lib.hid hz
  refine calls_of_wp_marks Try.func12 rfl ?_
  simp only [Try.ntmps12, List.size_toArray, List.length_cons, List.length_nil, Nat.reduceAdd, Nat.reduceSub, Array.replicate_succ, Array.replicate_zero, List.push_toArray, List.append_toArray, List.nil_append, List.cons_append]
  clear hz hb
  go_wp2_with (go_at_call 38; refine (need_any _ _).mono ?_; rintro e w' ⟨rfl, hw⟩; obtain rfl := hw.symm; rw [HZ.out])
  exact marks_none rfl (fun w => results_tmp rfl _ _ _) ⟨rfl, rfl⟩
set_option maxRecDepth 100000 in
set_option maxHeartbeats 1000000 in
theorem append_full (w : World) (B p : Nat) (v : Value) (m : Nat) (bs : Bs) (last most : Nat) (h : LogAt w B p v m bs last most) (a : Option Addr) (n c : Nat) (h1 : 1 ≤ n) (h2 : n ≤ 1024) (hb : most - m < needN n) :
    Calls Try.prog 12 #[.pointer (some ⟨p, 0, none⟩), .slice a n c] w fun e w' => e = .returned (.int .i64 7) ∧ Below w.heap.size w w' := by
  have HZ := Lib.hid (need_nat n)
  have H := Lib.hid h
  have hm := h.hm
  have hn := h.hn
  obtain ⟨N, hN⟩ : ∃ N, N = needN n := ⟨_, rfl⟩
  have hN1 := needN_of h1 h2
  rw [← hN] at hb hN1
  have e0 : ((N : Int) == 0) = false := by simp; omega
  have HN := Lib.hid hN
  clear h hN
  refine calls_of_wp_marks Try.func12 rfl ?_
  simp only [Try.ntmps12, List.size_toArray, List.length_cons, List.length_nil, Nat.reduceAdd, Nat.reduceSub, Array.replicate_succ, Array.replicate_zero, List.push_toArray, List.append_toArray, List.nil_append, List.cons_append]
  go_wp2_with (first | (go_at_call 38; refine (need_any _ _).mono ?_; rintro e w' ⟨rfl, hw⟩; obtain rfl := hw.symm; rw [HZ.out, ← HN.out]) | (go_at_call 39; refine (free_any _ _ _ _ _ _ _ _ H.out).mono ?_; rintro e w' ⟨rfl, hbl⟩; have HB := Lib.hid hbl; clear hbl))
  exact marks_none rfl (fun w => results_tmp rfl _ _ _) ⟨rfl, HB.out⟩



open Go.Shelf
attribute [local go_sem] Oper.semAt_some

theorem wpList_buildBlk {ops : Array Oper} {rest : List Oper} {o : Oper} {a : Act} {w : World} {Q : Exit → Act → World → Prop} (hgd : o.guard = none) (x : Operand) (ho : o.op = .buildSlice 81 1 #[(0, x)]) (X : Bs) (hX : X.length = 64) (hx : a.eval x = .agg (cellsU X).toArray)
    (h : wpList Try.prog ops Q rest (a.put o.dst (.slice (some ⟨w.heap.size, 0, none⟩) 1 1)) (w.alloc (.cells (cellsU X).toArray 91))) : wpList Try.prog ops Q (o :: rest) a w :=
  wpList_plain hgd fun K hK => by
    have hr := run_buildBlk (w := w) X hX
    unfold Oper.wp
    simp [execOp, ho, hx, hr, Result.andThen]
    exact hK _ _ h

/-- between two blocks of a record that is written -/
structure Wr (w : World) (B p : Nat) (v : Value) (m j : Nat) (bs R L : Bs) (last most D g3 T c3 : Nat) (W0 wr : World) (u : Value) : Prop where
  log : LogAt wr B p u (m + j) (bs ++ R.take (64 * j)) last most
  own : ∀ k, u.ownBlock = some k → v.ownBlock = some k ∨ w.heap.size ≤ k
  src : OwnB wr W0.heap.size (.slice (some ⟨g3, 0, none⟩) T c3) L
  keep : Keeps (fun i => i = p ∨ v.ownBlock = some i) w wr
  mark : wr.heap[D]? = some (.deferred (some []))
theorem Wr.cell {w : World} {B p : Nat} {v : Value} {m j : Nat} {bs R L : Bs} {last most D g3 T c3 : Nat} {W0 wr : World} {u : Value} (h : Wr w B p v m j bs R L last most D g3 T c3 W0 wr u) (hT : T = L.length) :
    ∀ k (hk : k < L.length), wr.cell? ⟨g3, k, none⟩ = some (.int .u8 (L[k].toNat : Int)) := fun k hk => by
  subst hT
  rw [World.ownsRow.cellAt h.src k (by omega), cellsU_get L k hk]

theorem blk_recd (l : Bs) (k : Nat) (h1 : 1 ≤ l.length) (h2 : l.length ≤ 1024) (j : Nat) (hj : 64 * j < (laid l k).length) : (recd l k).take (64 * (j + 1)) = (recd l k).take (64 * j) ++ blkB ((laid l k).drop (64 * j)) := by
  have hl := recd_length k h1 h2
  have hn := needN_of h1 h2
  have hll := laid_length l k
  rw [show 64 * (j + 1) = 64 * j + 64 by omega, List.take_add]
  congr 1
  unfold blkB recd
  rw [List.drop_append_of_le_length (by omega), List.take_append, List.length_drop, hll]
  congr 1
  rw [List.take_replicate]
  congr 1
  omega

theorem Wr.step {w : World} {B p : Nat} {v : Value} {m j : Nat} {bs R L X : Bs} {last most D g3 T c3 : Nat} {W0 wr W2 W3 : World} {u u2 : Value} (h : Wr w B p v m j bs R L last most D g3 T c3 W0 wr u) (hp : p < w.heap.size)
    (h2 : Below wr.heap.size wr W2) (h3 : OwnL W3 B u2 (m + j + 1) (bs ++ R.take (64 * j) ++ X)) (hg : W2.grownBy W3 u.ownBlock) (hu : ∀ k, u2.ownBlock = some k → u.ownBlock = some k ∨ W2.heap.size ≤ k) (hX : R.take (64 * (j + 1)) = R.take (64 * j) ++ X) (hj : m + j + 1 ≤ most) (hD : w.heap.size ≤ D) :
    Wr w B p v m (j + 1) bs R L last most D g3 T c3 W0 (W3.setCell ⟨p, 0, none⟩ u2) u2 := by
  have hpw := h.log.lt.1
  have e1 : ∀ k, k < wr.heap.size → u.ownBlock ≠ some k → W3.heap[k]? = wr.heap[k]? := fun k hk hne => (hg.block k (Nat.lt_of_lt_of_le hk h2.size) (fun e => hne e.symm)).trans (h2.block k hk)
  have ep := e1 p hpw h.log.ne
  have hc := ep.trans h.log.cells
  have hu2 : u2.ownBlock ≠ some p := by
    intro e
    obtain ⟨_, _, ⟨rfl, _⟩ | ⟨g, cap, cur, rfl, _, hg', _⟩⟩ := h3
    · simp [Value.ownBlock] at e
    · simp [Value.ownBlock] at e
      subst e
      rw [hc] at hg'
      simp at hg'
  have hlog : LogAt (W3.setCell ⟨p, 0, none⟩ u2) B p u2 (m + (j + 1)) (bs ++ R.take (64 * (j + 1))) last most :=
    ⟨by rw [heap_setCell_same hc]; rfl, ⟨by rw [hX, ← List.append_assoc]; exact h3.1, by rw [hX, ← List.append_assoc]; exact ownsRow_of_heap h3.2 fun k hk => heap_setCell_ne fun e => hu2 (by rw [hk]; exact congrArg some e)⟩, h.log.base, by have := h.log.hl; omega, by omega, h.log.hm⟩
  have hg3 : u.ownBlock ≠ some g3 := by
    intro e
    obtain ⟨_, _, ⟨rfl, _⟩ | ⟨g, cap, cur, rfl, _, hg', _⟩⟩ := h.log.row
    · simp [Value.ownBlock] at e
    · simp [Value.ownBlock] at e
      subst e
      obtain ⟨_, ⟨hv, _⟩ | ⟨g, cap, cur, hv, _, hg2, _⟩⟩ := h.src
      · cases hv
      · simp only [Value.slice.injEq, Option.some.injEq, Addr.mk.injEq, and_true] at hv
        rw [← hv.1] at hg2
        rw [hg2] at hg'
        simp at hg'
  have hg3p : g3 ≠ p := by
    intro e
    obtain ⟨_, ⟨hv, _⟩ | ⟨g, cap, cur, hv, _, hg2, _⟩⟩ := h.src
    · cases hv
    · simp only [Value.slice.injEq, Option.some.injEq, Addr.mk.injEq, and_true] at hv
      rw [← hv.1, e, h.log.cells] at hg2
      simp at hg2
  refine ⟨hlog, fun k hk => ?_, ownsRow_of_heap h.src fun k hk => ?_, ?_, ?_⟩
  · rcases hu k hk with h4 | h4
    · exact h.own k h4
    · exact .inr (Nat.le_trans (Nat.le_trans h.keep.size h2.size) h4)
  · simp only [Value.ownBlock, Option.some.injEq] at hk
    subst hk
    have hlt := (h.src.lt g3 rfl).2
    exact (heap_setCell_ne hg3p).trans (e1 g3 hlt hg3)
  · have k1 : Keeps (fun i => i = p ∨ v.ownBlock = some i) w W3 := h.keep.step (G := fun i => u.ownBlock = some i) ⟨hg.os.trans h2.os, hg.tape.trans h2.tape, hg.output.trans h2.output, Nat.le_trans h2.size hg.size, fun k hk hf => e1 k hk hf⟩
      (fun i hi hf e => by
        rcases h.own i e with h4 | h4
        · exact hf (.inr h4)
        · omega)
    exact k1.setCell (p := ⟨p, 0, none⟩) (fun _ => .inl rfl) _
  · have hDp : D ≠ p := by omega
    have hDu : u.ownBlock ≠ some D := by
      intro e
      obtain ⟨_, _, ⟨rfl, _⟩ | ⟨g, cap, cur, rfl, _, hg', _⟩⟩ := h.log.row
      · simp [Value.ownBlock] at e
      · simp [Value.ownBlock] at e
        subst e
        rw [h.mark] at hg'
        cases hg'
    exact (heap_setCell_ne hDp).trans ((e1 D (heap_lt h.mark) hDu).trans h.mark)

set_option maxRecDepth 100000 in
set_option maxHeartbeats 4000000 in
theorem append_any (w : World) (B p : Nat) (v : Value) (m : Nat) (bs : Bs) (last most : Nat) (rs : List Bs) (h : LogAt w B p v m bs last most) (hrs : Parsed bs rs) (l : Bs) (b o c : Nat) (h1 : 1 ≤ l.length) (h2 : l.length ≤ 1024) (hlc : l.length ≤ c) (hcm : c ≤ maxLen)
    (hsrc : ∀ k (hk : k < l.length), w.cell? ⟨b, o + k, none⟩ = some (.int .u8 (l[k].toNat : Int))) (hroom : needN l.length ≤ most - m) :
    Calls Try.prog 12 #[.pointer (some ⟨p, 0, none⟩), .slice (some ⟨b, o, none⟩) l.length c] w (AppendPost w B p v (m + needN l.length) (bs ++ recd l (rs.length + 1)) last most) := by
  have HZ := Lib.hid (need_nat l.length)
  have H := Lib.hid h
  have HRS := Lib.hid hrs
  have HSrc := Lib.hid hsrc
  have hm := h.hm
  have hn := h.hn
  have hbl := Lib.hid h.row.1
  obtain ⟨av, cv, rfl⟩ := h.lv
  obtain ⟨N, hN⟩ : ∃ N, N = needN l.length := ⟨_, rfl⟩
  have hN1 := needN_of h1 h2
  rw [← hN] at hroom hN1
  have e0 : ((N : Int) == 0) = false := by simp; omega
  have e1 : ¬ (most : Int) - (m : Int) < (N : Int) := by omega
  have e2 : decide ((most : Int) - (m : Int) < (N : Int)) = false := by simp; omega
  have HN := Lib.hid hN
  have HN1 := Lib.hid hN1
  rw [← hN]
  clear h hN hN1 hrs hsrc
  refine calls_of_wp_marks Try.func12 rfl ?_
  simp only [Try.ntmps12, List.size_toArray, List.length_cons, List.length_nil, Nat.reduceAdd, Nat.reduceSub, Array.replicate_succ, Array.replicate_zero, List.push_toArray, List.append_toArray, List.nil_append, List.cons_append]
  go_wp2_with (first | (go_at_call 38; refine (need_any _ _).mono ?_; rintro e w' ⟨rfl, hw⟩; obtain rfl := hw.symm; rw [HZ.out, ← HN.out]) | (go_at_call 39; refine (free_any _ _ _ _ _ _ _ _ H.out).mono ?_; rintro e w1 ⟨rfl, hbl⟩; have HB := Lib.hid hbl; clear hbl) | (go_at_call 40; refine (records_any _ _ ⟨_, rfl⟩).mono ?_; rintro e w' ⟨rfl, rfl⟩))
  refine wp_range_all (gf := 63) (lb := #[.pointer (some ⟨w1.heap.size + 1, 0, none⟩)]) rfl (enters_of Try.func63 (by kernel_rfl) rfl) 5000 encR (fun _ => rfl) AtR (AllR bs) (Keeps (fun i => ¬ (i < w1.heap.size ∨ i = w1.heap.size + 1)))
    (fun x W l o o' h hl ho => atR_putObj h hl ho) (fun h k => h.trans k) (fun W l o o' hl h ho => ⟨rfl, rfl, rfl, by simp, fun k hk hf => World.putObj_heap_other (by simp at hl; have := Classical.not_not.1 hf; omega)⟩)
    (fun pre W => W.heap[w1.heap.size]? = some (.cells #[.int .i64 ((pre.length : Int) + 1)] 3 (0, 0)) ∧ Below w1.heap.size w1 W)
    (fun pre W W' hI hb => ⟨(hb.block _ (heap_lt hI.1)).trans hI.1, hI.2.trans (hb.mono hI.2.size)⟩)
    (fun pre W l o o' hl hI h ho => ⟨(World.putObj_heap_other (by simp at hl; omega)).trans hI.1, below_putObj hI.2 (by simp at hl; omega)⟩)
    ⟨(heap_alloc_lt (by simp)).trans heap_alloc_eq, ((Below.refl _ w1).alloc (Nat.le_refl _) _).alloc (by simp) _⟩ ?seq ?a1 ?assign ?body ?done
  case assign =>
    intro l x W K hK
    dsimp only [encR]
    gi_wp2
    exact hK
  case seq =>
    intro l J W hW hWs hJ hY h0
    have hW0 : Below w1.heap.size w1 W := (((Below.refl _ w1).alloc (Nat.le_refl _) _).alloc (by simp) _).trans (hW.mono (by simp; omega))
    have hL1 := H.out.below HB.out
    exact rec1_any B p (.slice av m cv) m bs last most (w1.heap.size + 1) l W (hL1.below hW0) ((hW.block _ (by simp)).trans (by have := heap_alloc_eq (w := w1.alloc (.cells #[.int .i64 1] 3)) (o := .cells #[.pointer (some ⟨p, 0, none⟩)] 38); simpa using this)) _ (.inl hL1.lt.1) (.inr rfl) (fun k hk => .inl (hL1.lt.2 k hk).2) J hJ hY h0
  case body =>
    rintro l pre x W hWs ⟨hc, hb⟩ hat hN
    obtain ⟨c0, f0⟩ := cells_of_block hc 0 (.int .i64 ((pre.length : Int) + 1)) rfl
    have hz : w1.heap.size < W.heap.size := heap_lt hc
    gi_wp2
    refine ⟨KeepsOthers.setCell _ _ _, ⟨rfl, rfl, rfl, by simp [World.setCell], fun k hk hf => heap_setCell_ne (fun e => by have := Classical.not_not.1 hf; simp at e; omega)⟩, ?_, hb.setCell (p := ⟨w1.heap.size, 0, none⟩) (Nat.le_refl _) _⟩
    rw [heap_setCell_same hc]
    simp
  case done =>
    rintro D xs W hD ⟨hP, _⟩ ⟨hc, hb⟩ hK
    have hds : xs.map (·.d) = rs := parsed_unique hP HRS.out
    have hxl : xs.length = rs.length := by rw [← hds]; simp
    rw [hxl] at hc
    obtain ⟨c0, f0⟩ := cells_of_block hc 0 (.int .i64 ((rs.length : Int) + 1)) rfl
    have hrl : rs.length ≤ 4096 := by
      obtain ⟨g, rest, e, _⟩ := HRS.out
      have h1 := count_le g 0
      have h2 : (encs rs 0).length ≤ bs.length := by rw [e]; simp
      have := hbl.out
      omega
    have hwW : Below w.heap.size w W := HB.out.trans (hb.mono HB.out.size)
    have HWW := Lib.hid hwW
    have HL := Lib.hid (H.out.below hwW)
    have HSW := Lib.hid (show ∀ k (hk : k < l.length), W.cell? ⟨b, o + k, none⟩ = some (.int .u8 (l[k].toNat : Int)) from fun k hk => (hwW.cell (p := ⟨b, o + k, none⟩) (World.block_lt_of_cell? w _ (HSrc.out k hk))).trans (HSrc.out k hk))
    have HD := Lib.hid hD
    have HK := Lib.hid hK
    have HB1 := Lib.hid hb
    clear hds hxl hc hb hK hP hD hwW
    go_wp2_with (go_at_call 41; refine (lay_n l l.length rfl (rs.length + 1) _ (by omega) b o c _ h1 h2 hlc hcm (by omega) HSW.out).mono ?_; rintro e w3 ⟨v3, rfl, ho3, hb3⟩; have HO3 := Lib.hid ho3; have HB3 := Lib.hid hb3; clear ho3 hb3)
    have hT := laid_length l (rs.length + 1)
    obtain ⟨g3, c3, rfl, hc3, hc3m⟩ : ∃ g3 c3, v3 = .slice (some ⟨g3, 0, none⟩) (8 + l.length) c3 ∧ 8 + l.length ≤ c3 ∧ c3 ≤ maxLen := by
      obtain ⟨_, ⟨_, hn0⟩ | ⟨g, cap, cur, hv, _, _, e1, e2, _⟩⟩ := HO3.out
      · omega
      · rw [hT] at hv e1
        exact ⟨g, cap, hv, e1, e2⟩
    have hD2 : w1.heap.size + 2 ≤ D := by have := HD.out; simpa using this
    have hwD : w.heap.size ≤ D := by have := HB.out.size; omega
    have HWR := Lib.hid (show Wr w B p (.slice av m cv) m 0 bs (recd l (rs.length + 1)) (laid l (rs.length + 1)) last most D g3 (8 + l.length) c3 W w3 (.slice av m cv) from
      ⟨by simpa using HL.out.below HB3.out, fun k hk => .inl hk, by have := HO3.out; simp only [OwnB, hT] at this ⊢; exact this, Keeps.of_below ⟨HB3.out.os.trans HWW.out.os, HB3.out.tape.trans HWW.out.tape, HB3.out.output.trans HWW.out.output, Nat.le_trans HWW.out.size HB3.out.size, fun k hk => (HB3.out.block k (Nat.lt_of_lt_of_le hk HWW.out.size)).trans (HWW.out.block k hk)⟩, (HB3.out.block D (heap_lt HK.out)).trans HK.out⟩)
    have HT := Lib.hid hT
    have hpw := H.out.lt.1
    have hBp := H.out.base
    clear HO3 hT
    go_loopw [7] (fun s7 wr => ∃ (j f cc : Nat) (u : Value), s7 = .slice (some ⟨g3, f, none⟩) (8 + l.length - 64 * j) cc ∧ j ≤ N ∧ (64 * j < 8 + l.length → f = 64 * j) ∧ 8 + l.length - 64 * j ≤ cc ∧ cc ≤ maxLen ∧ Hid (Wr w B p (.slice av m cv) m j bs (recd l (rs.length + 1)) (laid l (rs.length + 1)) last most D g3 (8 + l.length) c3 W wr u)) (fun s7 _ => lenV s7)
    case atStart => exact ⟨0, 0, c3, _, by simp, Nat.zero_le _, fun _ => rfl, by omega, hc3m, HWR⟩
    case round =>
      obtain ⟨j, f, cc, u, rfl, hjN, hf, hcc, hccm, HW⟩ := hrel
      by_cases hlt : 64 * j < 8 + l.length
      · obtain rfl := hf hlt
        obtain ⟨au, cu, rfl⟩ := HW.out.log.lv
        have hjN2 : j < N := by have := HN1.out; omega
        have HR0 := Lib.hid (show 8 + l.length - 64 * j = ((laid l (rs.length + 1)).drop (64 * j)).length by rw [List.length_drop, HT.out])
        have HS0 := Lib.hid (show ∀ k (hk : k < ((laid l (rs.length + 1)).drop (64 * j)).length), wr.cell? ⟨g3, 64 * j + k, none⟩ = some (.int .u8 (((laid l (rs.length + 1)).drop (64 * j))[k].toNat : Int)) from fun k hk => by
          rw [List.length_drop] at hk
          rw [List.getElem_drop]
          exact HW.out.cell HT.out.symm _ (by omega))
        have HX := Lib.hid (blk_recd l (rs.length + 1) h1 h2 j (by rw [HT.out]; exact hlt))
        obtain ⟨q, hq⟩ : ∃ q, q = min (8 + l.length - 64 * j) 64 := ⟨_, rfl⟩
        have HQ := Lib.hid hq
        have hq1 : q ≤ 8 + l.length - 64 * j := by omega
        have hq3 : q ≤ 64 := by omega
        have hq2 : 8 + l.length - 64 * j - q = 8 + l.length - 64 * (j + 1) := by omega
        have HQ2 := Lib.hid hq2
        have hq0 : 0 < q := by omega
        have hlt0 : 0 < 8 + l.length - 64 * j := by omega
        have hg3 : g3 < wr.heap.size := (HW.out.src.lt g3 rfl).2
        generalize hRd : (laid l (rs.length + 1)).drop (64 * j) = R0 at *
        clear hf hq hq2 hRd
        by_cases hcq : cc = q
        · have hfin : ¬ 64 * (j + 1) < 8 + l.length := by omega
          go_wp2_with (refine wpList_copyBlk rfl _ _ rfl wr.heap.size g3 (64 * j) cc R0 _ q HR0.out HQ.out rfl rfl _ heap_alloc_eq (by kernel_rfl) (fun k hk => (Below.cell ((Below.refl wr.heap.size wr).alloc (Nat.le_refl _) _) hg3).trans (HS0.out k hk)) ?_)
          intro W2 hx2 hk2
          have hz2 : wr.heap.size < W2.heap.size := heap_lt hx2
          have hb2 : Below wr.heap.size wr W2 := by
            have hz := hk2.size
            exact ⟨hk2.os, hk2.tape, hk2.output, by simp at hz; omega, fun k hk => (hk2.block k (by simp; omega) (fun e => by omega)).trans (heap_alloc_lt hk)⟩
          have hcp := (hb2.block p HW.out.log.lt.1).trans HW.out.log.cells
          have hpz : p ≠ wr.heap.size := by have := HW.out.log.lt.1; omega
          have hpl : p < W2.heap.size := heap_lt hcp
          obtain ⟨k4, f4⟩ := cells_of_block hcp 0 (.slice au (m + j) cu) rfl
          have k4a : ∀ o, (W2.alloc o).cell? ⟨p, 0, none⟩ = some (.slice au (m + j) cu) := fun o => (Below.cell ((Below.refl W2.heap.size W2).alloc (Nat.le_refl _) o) hpl).trans k4
          have HX2 := Lib.hid hx2
          have HB2 := Lib.hid hb2
          have HCP := Lib.hid hcp
          have hX2a : ∀ o, (W2.alloc o).heap[wr.heap.size]? = some (.cells (cellsU (blkB R0)).toArray 91 (0, 0)) := fun o => (heap_alloc_lt hz2).trans hx2
          have HX2A := Lib.hid hX2a
          have HLR := Lib.hid (show OwnL (W2.alloc (.cells (cellsU (blkB R0)).toArray 91)) B (.slice au (m + j) cu) (m + j) (bs ++ (recd l (rs.length + 1)).take (64 * j)) from (HW.out.log.below (hb2.trans (((Below.refl W2.heap.size W2).alloc (Nat.le_refl _) _).mono hb2.size))).row)
          have HBC := Lib.hid (show ∀ k (hk : k < (blkB R0).length), (W2.alloc (.cells (cellsU (blkB R0)).toArray 91)).drew.cell? ⟨W2.heap.size, 0 + k, none⟩ = some (.int .u8 ((blkB R0)[k].toNat : Int)) from fun k hk => by
            rw [Nat.zero_add]
            show (match (W2.alloc (.cells (cellsU (blkB R0)).toArray 91)).heap[W2.heap.size]? with | some (.cells c _ _) => c[k]? | _ => none) = _
            rw [heap_alloc_eq]
            simpa using cellsU_get (blkB R0) k hk)
          have HNo := Lib.hid (show (Value.slice au (m + j) cu).ownBlock ≠ some wr.heap.size from fun e => by have := (HW.out.log.lt.2 _ e).2; omega)
          have HNp := Lib.hid HW.out.log.ne
          have HZ2 := Lib.hid hz2
          clear hx2 hk2 hb2 hcp hX2a
          go_wp2
          refine wp_region_tree (fun w' => (w'.heap[wr.heap.size]? = some (.cells (cellsU (blkB R0)).toArray 91 (0, 0)))) (.t 0 (.t 1 (.t 2 (.t 3 (.t 5 (.f 4 (.a 6 (.a 7 (.t 8 (.t 9 (.a 10 .nil))))) 6 (.a 4 (.a 7 (.t 8 (.t 9 (.a 10 .nil))))))))))) (by kernel_rfl) (by kernel_rfl) (by kernel_rfl) ?_ ?_
          · exact (by first | exact HX2.out | exact HX2A.out _ | exact HX3.out | exact (heap_setCell_ne (fun e => hpz e.symm)).trans HX3.out)
          iterate 4
           apply wpT_takeK rfl _ (by first | rfl | (simp [Region.wanted, yielded]; done))
           · intro w' hS
             have s0 := hS
             clear hS
             go_simp
             try rfl
           intro K hK
           go_simp
           refine hK _ ?_
           clear hK K
          refine wpT_takeK rfl (.agg (cellsU (blkB R0)).toArray) (by first | rfl | (simp [Region.wanted, yielded]; done)) ?_ ?_
          · intro w' hS
            have s0 := hS
            exact exec_loadBlk (blkB R0) (blk_length _) rfl rfl (fun k hk => by rw [Nat.zero_add]; simp only [World.cell?, s0]; simpa using cellsU_get (blkB R0) k hk)
          intro K hK
          go_simp
          refine hK _ ?_
          clear hK K
          refine wpT_fork rfl rfl ?_ ?_
          focus go_wp2
          refine QS_normal (by first | exact HX2.out | exact HX2A.out _ | exact HX3.out | exact (heap_setCell_ne (fun e => hpz e.symm)).trans HX3.out) (fun _ => ?_)
          refine wpT_alone rfl ?_
          focus ((try simp only [List.getElem_toArray, List.getElem_cons_succ, List.getElem_cons_zero]); refine wpList_buildBlk rfl _ rfl (blkB R0) (blk_length _) rfl ?_; go_wp2)
          refine QS_normal (by first | exact HX2.out | exact HX2A.out _ | exact HX3.out | exact (heap_setCell_ne (fun e => hpz e.symm)).trans HX3.out) (fun _ => ?_)
          refine wpT_alone rfl ?_
          focus ((try simp only [List.getElem_toArray, List.getElem_cons_succ, List.getElem_cons_zero]); refine wpList_app_blocks rfl _ _ rfl B (.slice au (m + j) cu) (m + j) _ rfl HLR.out _ 1 (blkB R0) rfl ⟨blk_length _, .inr ⟨_, 0, 1, rfl, Nat.le_refl _, by unfold maxLen; omega, fun k hk => HBC.out k hk⟩⟩ (by omega) (by simp; omega) ?_; intro u2 W3 ho3 hgr hnw; obtain ⟨a2, c2, rfl⟩ := ho3.lv; have HX3 := Lib.hid ((hgr.block wr.heap.size (by simp; have := HZ2.out; omega) (fun e => HNo.out e.symm)).trans (HX2A.out _)); obtain ⟨k3, f3⟩ := cells_of_block ((hgr.block p (by simp; omega) (fun e => HNp.out e.symm)).trans ((heap_alloc_lt hpl).trans HCP.out)) 0 (.slice au (m + j) cu) rfl; have HO3 := Lib.hid ho3; have HGR := Lib.hid hgr; have HNW := Lib.hid hnw; clear ho3 hgr hnw; go_wp2)
          refine QS_normal (by first | exact HX2.out | exact HX2A.out _ | exact HX3.out | exact (heap_setCell_ne (fun e => hpz e.symm)).trans HX3.out) (fun _ => ?_)
          iterate 2
           apply wpT_takeK rfl _ (by first | rfl | (simp [Region.wanted, yielded]; done))
           · intro w' hS
             have s0 := hS
             clear hS
             go_simp
             try rfl
           intro K hK
           go_simp
           refine hK _ ?_
           clear hK K
          refine wpT_alone rfl ?_
          focus go_wp2
          refine QS_normal (by first | exact HX2.out | exact HX2A.out _ | exact HX3.out | exact (heap_setCell_ne (fun e => hpz e.symm)).trans HX3.out) (fun _ => ?_)
          refine wpT_end ?_
          rotate_left
          focus ((try simp only [List.getElem_toArray, List.getElem_cons_succ, List.getElem_cons_zero]); refine wpList_buildBlk rfl _ rfl (blkB R0) (blk_length _) rfl ?_; go_wp2)
          refine QS_normal (by first | exact HX2.out | exact HX2A.out _ | exact HX3.out | exact (heap_setCell_ne (fun e => hpz e.symm)).trans HX3.out) (fun _ => ?_)
          refine wpT_alone rfl ?_
          focus go_wp2
          refine QS_normal (by first | exact HX2.out | exact HX2A.out _ | exact HX3.out | exact (heap_setCell_ne (fun e => hpz e.symm)).trans HX3.out) (fun _ => ?_)
          refine wpT_alone rfl ?_
          focus ((try simp only [List.getElem_toArray, List.getElem_cons_succ, List.getElem_cons_zero]); refine wpList_app_blocks rfl _ _ rfl B (.slice au (m + j) cu) (m + j) _ rfl HLR.out _ 1 (blkB R0) rfl ⟨blk_length _, .inr ⟨_, 0, 1, rfl, Nat.le_refl _, by unfold maxLen; omega, fun k hk => HBC.out k hk⟩⟩ (by omega) (by simp; omega) ?_; intro u2 W3 ho3 hgr hnw; obtain ⟨a2, c2, rfl⟩ := ho3.lv; have HX3 := Lib.hid ((hgr.block wr.heap.size (by simp; have := HZ2.out; omega) (fun e => HNo.out e.symm)).trans (HX2A.out _)); obtain ⟨k3, f3⟩ := cells_of_block ((hgr.block p (by simp; omega) (fun e => HNp.out e.symm)).trans ((heap_alloc_lt hpl).trans HCP.out)) 0 (.slice au (m + j) cu) rfl; have HO3 := Lib.hid ho3; have HGR := Lib.hid hgr; have HNW := Lib.hid hnw; clear ho3 hgr hnw; go_wp2)
          refine QS_normal (by first | exact HX2.out | exact HX2A.out _ | exact HX3.out | exact (heap_setCell_ne (fun e => hpz e.symm)).trans HX3.out) (fun _ => ?_)
          iterate 2
           apply wpT_takeK rfl _ (by first | rfl | (simp [Region.wanted, yielded]; done))
           · intro w' hS
             have s0 := hS
             clear hS
             go_simp
             try rfl
           intro K hK
           go_simp
           refine hK _ ?_
           clear hK K
          refine wpT_alone rfl ?_
          focus go_wp2
          refine QS_normal (by first | exact HX2.out | exact HX2A.out _ | exact HX3.out | exact (heap_setCell_ne (fun e => hpz e.symm)).trans HX3.out) (fun _ => ?_)
          refine wpT_end ?_
          rotate_left
          all_goals
            have HST := Lib.hid (HW.out.step hpw (HB2.out.trans (((Below.refl W2.heap.size W2).alloc (Nat.le_refl _) (.cells (cellsU (blkB R0)).toArray 91)).mono HB2.out.size)).drew HO3.out HGR.out HNW.out HX.out (by omega) hwD)
            go_wp2
            go_roundw
            case rel => exact ⟨j + 1, _, _, _, by rw [HQ2.out], by omega, fun hl => absurd hl hfin, by have := HQ2.out; omega, by omega, HST⟩
            case measure => simp [lenV]; omega
        · have hcap : q ≤ cc := by omega
          go_wp2_with (refine wpList_copyBlk rfl _ _ rfl wr.heap.size g3 (64 * j) cc R0 _ q HR0.out HQ.out rfl rfl _ heap_alloc_eq (by kernel_rfl) (fun k hk => (Below.cell ((Below.refl wr.heap.size wr).alloc (Nat.le_refl _) _) hg3).trans (HS0.out k hk)) ?_)
          intro W2 hx2 hk2
          have hz2 : wr.heap.size < W2.heap.size := heap_lt hx2
          have hb2 : Below wr.heap.size wr W2 := by
            have hz := hk2.size
            exact ⟨hk2.os, hk2.tape, hk2.output, by simp at hz; omega, fun k hk => (hk2.block k (by simp; omega) (fun e => by omega)).trans (heap_alloc_lt hk)⟩
          have hcp := (hb2.block p HW.out.log.lt.1).trans HW.out.log.cells
          have hpz : p ≠ wr.heap.size := by have := HW.out.log.lt.1; omega
          have hpl : p < W2.heap.size := heap_lt hcp
          obtain ⟨k4, f4⟩ := cells_of_block hcp 0 (.slice au (m + j) cu) rfl
          have k4a : ∀ o, (W2.alloc o).cell? ⟨p, 0, none⟩ = some (.slice au (m + j) cu) := fun o => (Below.cell ((Below.refl W2.heap.size W2).alloc (Nat.le_refl _) o) hpl).trans k4
          have HX2 := Lib.hid hx2
          have HB2 := Lib.hid hb2
          have HCP := Lib.hid hcp
          have hX2a : ∀ o, (W2.alloc o).heap[wr.heap.size]? = some (.cells (cellsU (blkB R0)).toArray 91 (0, 0)) := fun o => (heap_alloc_lt hz2).trans hx2
          have HX2A := Lib.hid hX2a
          have HLR := Lib.hid (show OwnL (W2.alloc (.cells (cellsU (blkB R0)).toArray 91)) B (.slice au (m + j) cu) (m + j) (bs ++ (recd l (rs.length + 1)).take (64 * j)) from (HW.out.log.below (hb2.trans (((Below.refl W2.heap.size W2).alloc (Nat.le_refl _) _).mono hb2.size))).row)
          have HBC := Lib.hid (show ∀ k (hk : k < (blkB R0).length), (W2.alloc (.cells (cellsU (blkB R0)).toArray 91)).drew.cell? ⟨W2.heap.size, 0 + k, none⟩ = some (.int .u8 ((blkB R0)[k].toNat : Int)) from fun k hk => by
            rw [Nat.zero_add]
            show (match (W2.alloc (.cells (cellsU (blkB R0)).toArray 91)).heap[W2.heap.size]? with | some (.cells c _ _) => c[k]? | _ => none) = _
            rw [heap_alloc_eq]
            simpa using cellsU_get (blkB R0) k hk)
          have HNo := Lib.hid (show (Value.slice au (m + j) cu).ownBlock ≠ some wr.heap.size from fun e => by have := (HW.out.log.lt.2 _ e).2; omega)
          have HNp := Lib.hid HW.out.log.ne
          have HZ2 := Lib.hid hz2
          clear hx2 hk2 hb2 hcp hX2a
          go_wp2
          refine wp_region_tree (fun w' => (w'.heap[wr.heap.size]? = some (.cells (cellsU (blkB R0)).toArray 91 (0, 0)))) (.t 0 (.t 1 (.t 2 (.t 3 (.t 5 (.f 4 (.a 6 (.a 7 (.t 8 (.t 9 (.a 10 .nil))))) 6 (.a 4 (.a 7 (.t 8 (.t 9 (.a 10 .nil))))))))))) (by kernel_rfl) (by kernel_rfl) (by kernel_rfl) ?_ ?_
          · exact (by first | exact HX2.out | exact HX2A.out _ | exact HX3.out | exact (heap_setCell_ne (fun e => hpz e.symm)).trans HX3.out)
          iterate 4
           apply wpT_takeK rfl _ (by first | rfl | (simp [Region.wanted, yielded]; done))
           · intro w' hS
             have s0 := hS
             clear hS
             go_simp
             try rfl
           intro K hK
           go_simp
           refine hK _ ?_
           clear hK K
          refine wpT_takeK rfl (.agg (cellsU (blkB R0)).toArray) (by first | rfl | (simp [Region.wanted, yielded]; done)) ?_ ?_
          · intro w' hS
            have s0 := hS
            exact exec_loadBlk (blkB R0) (blk_length _) rfl rfl (fun k hk => by rw [Nat.zero_add]; simp only [World.cell?, s0]; simpa using cellsU_get (blkB R0) k hk)
          intro K hK
          go_simp
          refine hK _ ?_
          clear hK K
          refine wpT_fork rfl rfl ?_ ?_
          focus go_wp2
          refine QS_normal (by first | exact HX2.out | exact HX2A.out _ | exact HX3.out | exact (heap_setCell_ne (fun e => hpz e.symm)).trans HX3.out) (fun _ => ?_)
          refine wpT_alone rfl ?_
          focus ((try simp only [List.getElem_toArray, List.getElem_cons_succ, List.getElem_cons_zero]); refine wpList_buildBlk rfl _ rfl (blkB R0) (blk_length _) rfl ?_; go_wp2)
          refine QS_normal (by first | exact HX2.out | exact HX2A.out _ | exact HX3.out | exact (heap_setCell_ne (fun e => hpz e.symm)).trans HX3.out) (fun _ => ?_)
          refine wpT_alone rfl ?_
          focus ((try simp only [List.getElem_toArray, List.getElem_cons_succ, List.getElem_cons_zero]); refine wpList_app_blocks rfl _ _ rfl B (.slice au (m + j) cu) (m + j) _ rfl HLR.out _ 1 (blkB R0) rfl ⟨blk_length _, .inr ⟨_, 0, 1, rfl, Nat.le_refl _, by unfold maxLen; omega, fun k hk => HBC.out k hk⟩⟩ (by omega) (by simp; omega) ?_; intro u2 W3 ho3 hgr hnw; obtain ⟨a2, c2, rfl⟩ := ho3.lv; have HX3 := Lib.hid ((hgr.block wr.heap.size (by simp; have := HZ2.out; omega) (fun e => HNo.out e.symm)).trans (HX2A.out _)); obtain ⟨k3, f3⟩ := cells_of_block ((hgr.block p (by simp; omega) (fun e => HNp.out e.symm)).trans ((heap_alloc_lt hpl).trans HCP.out)) 0 (.slice au (m + j) cu) rfl; have HO3 := Lib.hid ho3; have HGR := Lib.hid hgr; have HNW := Lib.hid hnw; clear ho3 hgr hnw; go_wp2)
          refine QS_normal (by first | exact HX2.out | exact HX2A.out _ | exact HX3.out | exact (heap_setCell_ne (fun e => hpz e.symm)).trans HX3.out) (fun _ => ?_)
          iterate 2
           apply wpT_takeK rfl _ (by first | rfl | (simp [Region.wanted, yielded]; done))
           · intro w' hS
             have s0 := hS
             clear hS
             go_simp
             try rfl
           intro K hK
           go_simp
           refine hK _ ?_
           clear hK K
          refine wpT_alone rfl ?_
          focus go_wp2
          refine QS_normal (by first | exact HX2.out | exact HX2A.out _ | exact HX3.out | exact (heap_setCell_ne (fun e => hpz e.symm)).trans HX3.out) (fun _ => ?_)
          refine wpT_end ?_
          rotate_left
          focus ((try simp only [List.getElem_toArray, List.getElem_cons_succ, List.getElem_cons_zero]); refine wpList_buildBlk rfl _ rfl (blkB R0) (blk_length _) rfl ?_; go_wp2)
          refine QS_normal (by first | exact HX2.out | exact HX2A.out _ | exact HX3.out | exact (heap_setCell_ne (fun e => hpz e.symm)).trans HX3.out) (fun _ => ?_)
          refine wpT_alone rfl ?_
          focus go_wp2
          refine QS_normal (by first | exact HX2.out | exact HX2A.out _ | exact HX3.out | exact (heap_setCell_ne (fun e => hpz e.symm)).trans HX3.out) (fun _ => ?_)
          refine wpT_alone rfl ?_
          focus ((try simp only [List.getElem_toArray, List.getElem_cons_succ, List.getElem_cons_zero]); refine wpList_app_blocks rfl _ _ rfl B (.slice au (m + j) cu) (m + j) _ rfl HLR.out _ 1 (blkB R0) rfl ⟨blk_length _, .inr ⟨_, 0, 1, rfl, Nat.le_refl _, by unfold maxLen; omega, fun k hk => HBC.out k hk⟩⟩ (by omega) (by simp; omega) ?_; intro u2 W3 ho3 hgr hnw; obtain ⟨a2, c2, rfl⟩ := ho3.lv; have HX3 := Lib.hid ((hgr.block wr.heap.size (by simp; have := HZ2.out; omega) (fun e => HNo.out e.symm)).trans (HX2A.out _)); obtain ⟨k3, f3⟩ := cells_of_block ((hgr.block p (by simp; omega) (fun e => HNp.out e.symm)).trans ((heap_alloc_lt hpl).trans HCP.out)) 0 (.slice au (m + j) cu) rfl; have HO3 := Lib.hid ho3; have HGR := Lib.hid hgr; have HNW := Lib.hid hnw; clear ho3 hgr hnw; go_wp2)
          refine QS_normal (by first | exact HX2.out | exact HX2A.out _ | exact HX3.out | exact (heap_setCell_ne (fun e => hpz e.symm)).trans HX3.out) (fun _ => ?_)
          iterate 2
           apply wpT_takeK rfl _ (by first | rfl | (simp [Region.wanted, yielded]; done))
           · intro w' hS
             have s0 := hS
             clear hS
             go_simp
             try rfl
           intro K hK
           go_simp
           refine hK _ ?_
           clear hK K
          refine wpT_alone rfl ?_
          focus go_wp2
          refine QS_normal (by first | exact HX2.out | exact HX2A.out _ | exact HX3.out | exact (heap_setCell_ne (fun e => hpz e.symm)).trans HX3.out) (fun _ => ?_)
          refine wpT_end ?_
          rotate_left
          all_goals
            have HST := Lib.hid (HW.out.step hpw (HB2.out.trans (((Below.refl W2.heap.size W2).alloc (Nat.le_refl _) (.cells (cellsU (blkB R0)).toArray 91)).mono HB2.out.size)).drew HO3.out HGR.out HNW.out HX.out (by omega) hwD)
            go_wp2
            go_roundw
            case rel => exact ⟨j + 1, _, _, _, by rw [HQ2.out], by omega, fun hl => by have := HQ.out; omega, by have := HQ2.out; omega, by omega, HST⟩
            case measure => simp [lenV]; omega
      · have hjN3 : j = N := by have := HN1.out; omega
        have hlen0 : 8 + l.length - 64 * j = 0 := by omega
        have hRl : (recd l (rs.length + 1)).take (64 * j) = recd l (rs.length + 1) := by
          rw [List.take_of_length_le]
          rw [recd_length _ h1 h2, ← HN.out]; omega
        have HRl := Lib.hid hRl
        have HJ := Lib.hid hjN3
        rw [hlen0]
        clear hRl hjN3 hf hlen0
        go_wp2
        have hpD : p ≠ D := by omega
        have huD : u.ownBlock ≠ some D := by
          intro e
          obtain ⟨_, _, ⟨rfl, _⟩ | ⟨g, cap, cur, rfl, _, hg', _⟩⟩ := HW.out.log.row
          · simp [Value.ownBlock] at e
          · simp [Value.ownBlock] at e
            subst e
            rw [HW.out.mark] at hg'
            cases hg'
        refine marks_ret rfl HW.out.mark (fun w => results_tmp rfl _ _ _) ⟨rfl, u, ?_, HW.out.own, ?_⟩
        · have := HW.out.log.kept (w' := wr.putObj D (.deferred none)) fun i hi => World.putObj_heap_other fun e => by
            subst e
            rcases hi with hi | hi
            · exact hpD hi.symm
            · exact huD hi
          rw [HRl.out, HJ.out] at this
          exact this
        · have k2 := HW.out.keep
          exact ⟨k2.os, k2.tape, k2.output, by simpa using k2.size, fun k hk hf => (World.putObj_heap_other (by omega)).trans (k2.block k hk hf)⟩

end Go.Proofs.Ytobpohjhhelljaa
