/- Layer 5 (blocks): a log's Records. -/
import Derived.Test.YtmkfiecdgghceaaB9
namespace Go.Proofs.Ytmkfiecdgghceaa
open Go.RowKit
set_option linter.unusedVariables false
set_option linter.unusedSimpArgs false

open Go.Shelf
attribute [local go_sem] Oper.semAt_some

/-- rows of bytes that lie from block B on, the call's own -/
def OwnRows (w : World) (B : Nat) (v : Value) (rs : List Bs) : Prop := ∃ vs : List Value, vs.length = rs.length ∧ w.ownsRow B 22 1 v rs.length vs ∧ ∀ i (h : i < rs.length) (h' : i < vs.length), OwnB w B vs[i] rs[i]
theorem OwnRows.nil (w : World) (B : Nat) : OwnRows w B (.slice none 0 0) [] := ⟨[], rfl, World.ownsRow_nil _ _ _ _, fun i h => by simp at h⟩
theorem OwnRows.same {w w' : World} {B : Nat} {v : Value} {rs : List Bs} (h : OwnRows w B v rs) (hs : CellsSame w w') : OwnRows w' B v rs := by
  obtain ⟨vs, h1, h2, h3⟩ := h
  exact ⟨vs, h1, hs.ownsRow h2, fun i a b => hs.ownsRow (h3 i a b)⟩
theorem OwnRows.lv {w : World} {B : Nat} {v : Value} {rs : List Bs} (h : OwnRows w B v rs) : ∃ a c, v = .slice a rs.length c := by
  obtain ⟨_, _, ⟨_, ⟨rfl, h0⟩ | ⟨g, c, _, rfl, _⟩⟩, _⟩ := h
  · exact ⟨none, 0, by rw [h0]⟩
  · exact ⟨_, _, rfl⟩

theorem und_BB : Try.prog.underlying 28 = some (.slice 22) := by kernel_rfl
theorem info_B : (Try.prog.info? 22).map (fun i => (i.zero, i.size, i.bytes)) = some (some (.slice none 0 0), 1, 24) := by kernel_rfl

/-- a row of bytes is appended to the rows -/
theorem run_app_row {w : World} {B g c : Nat} {v u : Value} {rs : List Bs} {r : Bs} (ty : TypeId) (hown : OwnRows w B v rs) (hu : OwnB w B u r) (hg : w.cell? ⟨g, 0, none⟩ = some u) (hlim : rs.length + 1 ≤ 1000000) (hB : B ≤ w.heap.size) :
    ∃ v' w', (Builtin.append_ #[28, 28] ty #[v, .slice (some ⟨g, 0, none⟩) 1 c]).run Try.prog w = .ok v' w' ∧ OwnRows w' B v' (rs ++ [r]) ∧ w.grownBy w' v.ownBlock := by
  obtain ⟨i0, hi, hz0, hz1, hz2⟩ := info_parts info_B
  obtain ⟨vs, h1, h2, h3⟩ := hown
  have hu1 : u.oneCell' = true := by
    obtain ⟨a, c, rfl⟩ := hu.lv
    rfl
  obtain ⟨v', w', h4, h5, h6, _⟩ := run_append_own (w := w) B 28 ty 22 i0 (.slice none 0 0) 1 24 und_BB hi hz0 hz1 hz2 rfl (by decide) v _ _ h2 ⟨g, 0, none⟩ 1 c [u] rfl
    (fun j y hy => by
      have hj : j = 0 := by have := (List.getElem?_eq_some_iff.1 hy).1; simpa using this
      subst hj
      simp at hy
      rw [Addr.add_lit, ← hy]; exact hg) (fun y hy => by simp at hy; rw [hy]; exact hu1) (by unfold maxLen; omega) (by omega) hB
  have keep : ∀ (x : Value) (l : Bs), OwnB w B x l → OwnB w' B x l := fun x l hx => ownsRow_of_heap hx fun k hk => h6.block k (hx.lt k hk).2 fun e => by
    obtain ⟨_, ⟨rfl, _⟩ | ⟨g1, _, _, rfl, _, e1, _⟩⟩ := hx
    · simp [Value.ownBlock] at hk
    obtain ⟨_, ⟨rfl, _⟩ | ⟨g2, _, _, rfl, _, e2, _⟩⟩ := h2
    · simp [Value.ownBlock] at e
    simp only [Value.ownBlock, Option.some.injEq] at hk e
    subst hk; subst e
    rw [e1] at e2
    simp at e2
  refine ⟨v', w', h4, ⟨vs ++ [u], by simp [h1], by simpa using h5, fun i ha hb => ?_⟩, h6⟩
  by_cases hir : i < rs.length
  · rw [List.getElem_append_left (by omega), List.getElem_append_left hir]
    exact keep _ _ (h3 i hir (by omega))
  · have : i = rs.length := by simp at ha; omega
    subst this
    rw [List.getElem_append_right (by omega), List.getElem_append_right (by omega)]
    simpa using keep _ _ hu
theorem wpList_app_row {ops : Array Oper} {rest : List Oper} {o : Oper} {a : Act} {w : World} {Q : Exit → Act → World → Prop} (hgd : o.guard = none) (s x : Operand)
    (ho : o.op = .call { callee := .builtin .append, args := #[s, x], argTypes := #[28, 28] }) (B : Nat) (v : Value) (rs : List Bs) (hs : a.eval s = v) (hown : OwnRows w B v rs) (g c : Nat) (u : Value) (r : Bs) (hx : a.eval x = .slice (some ⟨g, 0, none⟩) 1 c) (hu : OwnB w B u r) (hg : w.cell? ⟨g, 0, none⟩ = some u)
    (hlim : rs.length + 1 ≤ 1000000) (hB : B ≤ w.heap.size) (h : ∀ v' w', OwnRows w' B v' (rs ++ [r]) → w.grownBy w' v.ownBlock → wpList Try.prog ops Q rest (a.put o.dst v') w') : wpList Try.prog ops Q (o :: rest) a w := by
  refine wpList_plain hgd fun K hK => ?_
  obtain ⟨v', w', hr, h1, h2⟩ := run_app_row (c := c) o.type hown hu hg hlim hB
  unfold Oper.wp
  simp [execOp, ho, resolve, invoke, builtin, hs, hx, hr, Result.andThen]
  exact hK _ _ (h v' w' h1 h2)
theorem OwnRows.lt {w : World} {B : Nat} {v : Value} {rs : List Bs} (h : OwnRows w B v rs) : ∀ k, v.ownBlock = some k → B ≤ k ∧ k < w.heap.size := by
  obtain ⟨_, _, h, _⟩ := h
  exact h.lt

theorem OwnRows.kept {w w' : World} {B : Nat} {v : Value} {rs : List Bs} (h : OwnRows w B v rs) (hk : ∀ k, B ≤ k → k < w.heap.size → w'.heap[k]? = w.heap[k]?) : OwnRows w' B v rs := by
  obtain ⟨vs, h1, h2, h3⟩ := h
  exact ⟨vs, h1, ownsRow_of_heap h2 fun k e => hk k (h2.lt k e).1 (h2.lt k e).2, fun i a b => ownsRow_of_heap (h3 i a b) fun k e => hk k ((h3 i a b).lt k e).1 ((h3 i a b).lt k e).2⟩
theorem keepsOthers_row {W W' : World} {B : Nat} {v : Value} {rs : List Bs} (h : Keeps (fun i => some i = v.ownBlock) W W') (ho : OwnRows W B v rs) : KeepsOthers W W' :=
  ⟨h.size, fun k o hk hc => (h.block k (heap_lt hk) fun e => by
    obtain ⟨_, _, ⟨_, ⟨rfl, _⟩ | ⟨g, _, _, rfl, _, hg, _⟩⟩, _⟩ := ho
    · simp [Value.ownBlock] at e
    · simp only [Value.ownBlock, Option.some.injEq] at e
      subst e
      rw [hg] at hk
      cases hk
      simp [Go.Obj.isCells] at hc).trans hk⟩
/-- what a round that appends to the caller's rows leaves -/
theorem row_round {w W w2 : World} {v v2 : Value} {rs : List Bs} {r : Bs} (hb : Below w.heap.size w W) (hW : w.heap.size + 4 ≤ W.heap.size) (ho : OwnRows W (w.heap.size + 2) v rs) (hc : W.heap[w.heap.size]? = some (.cells #[v] 28 (0, 0)))
    (hk : Keeps (fun i => some i = v.ownBlock) W w2) (ho2 : OwnRows w2 (w.heap.size + 2) v2 (rs ++ [r])) :
    KeepsOthers W (w2.setCell ⟨w.heap.size, 0, none⟩ v2) ∧ Keeps (fun i => ¬ (i < w.heap.size ∨ i = w.heap.size + 1)) W (w2.setCell ⟨w.heap.size, 0, none⟩ v2) ∧
      (∃ ov, (w2.setCell ⟨w.heap.size, 0, none⟩ v2).heap[w.heap.size]? = some (.cells #[ov] 28 (0, 0)) ∧ OwnRows (w2.setCell ⟨w.heap.size, 0, none⟩ v2) (w.heap.size + 2) ov (rs ++ [r])) ∧ Below w.heap.size w (w2.setCell ⟨w.heap.size, 0, none⟩ v2) := by
  have hrow : ∀ k, some k = v.ownBlock → w.heap.size + 2 ≤ k := fun k e => (ho.lt k e.symm).1
  have hc2 := (hk.block _ (heap_lt hc) (fun e => by have := hrow _ e; omega)).trans hc
  refine ⟨(keepsOthers_row hk ho).trans (KeepsOthers.setCell _ _ _), ?_, ⟨v2, by rw [heap_setCell_same hc2]; rfl, ho2.kept fun k h1 _ => heap_setCell_ne (fun e => by simp at e; omega)⟩, ?_⟩
  · refine (hk.mono fun i _ e h => ?_).setCell (p := ⟨w.heap.size, 0, none⟩) (fun _ h => by simp at h) _
    have := hrow i e
    omega
  · exact (hb.trans ⟨hk.os, hk.tape, hk.output, hk.size, fun k hkk => hk.block k (by omega) (fun e => by have := hrow k e; omega)⟩).setCell (p := ⟨w.heap.size, 0, none⟩) (Nat.le_refl _) _

set_option maxRecDepth 100000 in
set_option maxHeartbeats 2000000 in
theorem records_log (w : World) (B p : Nat) (v : Value) (n : Nat) (bs : Bs) (last most : Nat) (rs : List Bs) (h : LogAt w B p v n bs last most) (hrs : Parsed bs rs) :
    Calls Try.prog 19 #[.pointer (some ⟨p, 0, none⟩)] w fun e w' => ∃ u, e = .returned u ∧ OwnRows w' w.heap.size u rs ∧ Below w.heap.size w w' := by
  have H := Lib.hid h
  have HRS := Lib.hid hrs
  have hm := h.hm
  obtain ⟨a, c, rfl⟩ := h.lv
  clear h hrs
  refine calls_of_wp_marks Try.func19 rfl ?_
  simp only [Try.ntmps19, List.size_toArray, List.length_cons, List.length_nil, Nat.reduceAdd, Nat.reduceSub, Array.replicate_succ, Array.replicate_zero, List.push_toArray, List.append_toArray, List.nil_append, List.cons_append]
  go_wp2_with (go_at_call 31; refine (records_any _ _ ⟨_, rfl⟩).mono ?_; rintro e w' ⟨rfl, rfl⟩)
  refine wp_range_all (gf := 43) (lb := #[.pointer (some ⟨w.heap.size + 1, 0, none⟩)]) rfl (enters_of Try.func43 (by kernel_rfl) rfl) 5000 encR (fun _ => rfl) AtR (AllR bs) (Keeps (fun i => ¬ (i < w.heap.size ∨ i = w.heap.size + 1)))
    (fun x W l o o' h hl ho => atR_putObj h hl ho) (fun h k => h.trans k) (fun W l o o' hl h ho => ⟨rfl, rfl, rfl, by simp, fun k hk hf => World.putObj_heap_other (by simp at hl; have := Classical.not_not.1 hf; omega)⟩)
    (fun pre W => (∃ ov, W.heap[w.heap.size]? = some (.cells #[ov] 28 (0, 0)) ∧ OwnRows W (w.heap.size + 2) ov (ds pre)) ∧ Below w.heap.size w W)
    (fun pre W W' hI hb => ⟨hI.1.imp fun ov h => ⟨(hb.block _ (heap_lt h.1)).trans h.1, h.2.same (CellsSame.of_below hb)⟩, hI.2.trans (hb.mono hI.2.size)⟩)
    (fun pre W l o o' hl hI h ho => ⟨hI.1.imp fun ov h1 => ⟨(World.putObj_heap_other (by simp at hl; omega)).trans h1.1, h1.2.same (CellsSame.putObj h ho)⟩, below_putObj hI.2 (by simp at hl; omega)⟩)
    ⟨⟨_, (heap_alloc_lt (by simp)).trans heap_alloc_eq, OwnRows.nil _ _⟩, ((Below.refl _ w).alloc (Nat.le_refl _) _).alloc (by simp) _⟩ ?seq ?a1 ?assign ?body ?done
  case assign =>
    intro l x W K hK
    dsimp only [encR]
    gi_wp2
    exact hK
  case seq =>
    intro l J W hW hWs hJ hY h0
    have hW0 : Below w.heap.size w W := (((Below.refl _ w).alloc (Nat.le_refl _) _).alloc (by simp) _).trans (hW.mono (by simp; omega))
    exact rec1_any B p (.slice a n c) n bs last most (w.heap.size + 1) l W (H.out.below hW0) ((hW.block _ (by simp)).trans (by have := heap_alloc_eq (w := w.alloc (.cells #[.slice none 0 0] 28)) (o := .cells #[.pointer (some ⟨p, 0, none⟩)] 31); simpa using this)) _ (.inl H.out.lt.1) (.inr rfl) (fun k hk => .inl (H.out.lt.2 k hk).2) J hJ hY h0
  case body =>
    rintro l pre x W hWs ⟨⟨ov, hc, ho⟩, hb⟩ hat hN
    obtain ⟨c0, f0⟩ := cells_of_block hc 0 ov rfl
    have HB := Lib.hid hb
    have HO := Lib.hid ho
    have HAt := Lib.hid hat
    obtain ⟨oa, oc, rfl⟩ := ho.lv
    clear hb ho hat
    have hx := HAt.out
    have hW4 : w.heap.size + 4 ≤ W.heap.size := by simp at hWs; omega
    have hpl : (ds pre).length ≤ 5000 := by simp [ds]; omega
    have HC := Lib.hid hc
    have HX := Lib.hid (show IsB W.drew (.slice (some ⟨x.b, x.o, none⟩) x.d.length x.d.length) x.d from .inr ⟨x.b, x.o, _, rfl, Nat.le_refl _, by have := hx.2.1; unfold maxLen; omega, hx.2.2⟩)
    clear hc hx
    have HNb := Lib.hid (show (Value.slice oa (ds pre).length oc).ownBlock ≠ some w.heap.size from fun e => by have := (HO.out.lt _ e).1; omega)
    gi_wp2_with fail
    refine wpIn_region_tree (fun w' => True) (.t 1 (.f 0 (.a 2 (.a 3 (.a 4 (.a 5 .nil)))) 2 (.f 0 (.a 3 (.a 4 (.a 5 .nil))) 3 (.a 0 (.a 4 (.a 5 .nil)))))) (by kernel_rfl) (by kernel_rfl) (by kernel_rfl) (by kernel_rfl) (fun _ _ _ _ _ h => h) (fun h => by obtain ⟨_, _, h⟩ := h; exact h) ?_ ?_
    · exact trivial
    apply wpT_takeK rfl _ (by first | rfl | (simp [Region.wanted, yielded]; done))
    · intro w' hS
      skip
      skip
      go_simp
      try rfl
    intro K hK
    go_simp
    refine hK _ ?_
    clear hK K
    refine wpT_fork rfl rfl ?_ ?_
    focus go_wp2
    refine QS_normal trivial (fun _ => ?_)
    refine wpT_alone rfl ?_
    focus (go_wp2_with (go_at_call 33; refine (cloneB_any x.d _ _ (by have := HAt.out.2.1; omega) HX.out).mono ?_; rintro e w1 ⟨u, rfl, hu, hb1⟩; obtain ⟨au, cu, rfl⟩ := hu.lv; have HU := Lib.hid hu; have HBW := Lib.hid (show Below W.heap.size W w1 from ⟨hb1.os, hb1.tape, hb1.output, hb1.size, hb1.block⟩); have k0 := (hb1.cell (p := ⟨w.heap.size, 0, none⟩) (heap_lt HC.out)).trans c0; have k1 := (hb1.frozen (p := ⟨w.heap.size, 0, none⟩) (heap_lt HC.out)).trans f0; have k2 : ∀ o, (w1.alloc o).cell? ⟨w.heap.size, 0, none⟩ = some (.slice oa (ds pre).length oc) := fun o => (Below.cell ((Below.refl w1.heap.size w1).alloc (Nat.le_refl _) o) (World.block_lt_of_cell? _ _ k0)).trans k0; clear hu hb1))
    refine QS_normal trivial (fun _ => ?_)
    refine wpT_alone rfl ?_
    focus go_wp2
    refine QS_normal trivial (fun _ => ?_)
    refine wpT_alone rfl ?_
    focus ((try simp only [List.getElem_toArray, List.getElem_cons_succ, List.getElem_cons_zero]); refine wpList_app_row rfl _ _ rfl (w.heap.size + 2) _ (ds pre) rfl (HO.out.same (CellsSame.of_below (HBW.out.alloc HBW.out.size _))) w1.heap.size _ _ x.d rfl ((ownsRow_mono HU.out (by have h3 : W.drew.heap.size = W.heap.size := rfl; omega)).alloc _) (cells_of_block heap_alloc_eq 0 _ rfl).1 (by omega) (by have := HBW.out.size; simp; omega) ?_; intro v2 w2 hown hgr; obtain ⟨av, cv, rfl⟩ := hown.lv; have HO2 := Lib.hid hown; have HB2 := Lib.hid (show Keeps (fun i => some i = (Value.slice oa (ds pre).length oc).ownBlock) W w2 from (Keeps.of_below (HBW.out.alloc HBW.out.size _)).trans (grownBy_keeps' hgr)); obtain ⟨m0, n0⟩ := cells_of_block ((HB2.out.block _ (heap_lt HC.out) (fun e => HNb.out e.symm)).trans HC.out) 0 _ rfl; clear hown hgr; go_wp2)
    refine QS_normal trivial (fun _ => ?_)
    refine wpT_alone rfl ?_
    focus go_wp2
    refine QS_normal trivial (fun _ => ?_)
    refine wpT_nil ?_
    rotate_left
    focus (go_wp2_with (go_at_call 33; refine (cloneB_any x.d _ _ (by have := HAt.out.2.1; omega) HX.out).mono ?_; rintro e w1 ⟨u, rfl, hu, hb1⟩; obtain ⟨au, cu, rfl⟩ := hu.lv; have HU := Lib.hid hu; have HBW := Lib.hid (show Below W.heap.size W w1 from ⟨hb1.os, hb1.tape, hb1.output, hb1.size, hb1.block⟩); have k0 := (hb1.cell (p := ⟨w.heap.size, 0, none⟩) (heap_lt HC.out)).trans c0; have k1 := (hb1.frozen (p := ⟨w.heap.size, 0, none⟩) (heap_lt HC.out)).trans f0; have k2 : ∀ o, (w1.alloc o).cell? ⟨w.heap.size, 0, none⟩ = some (.slice oa (ds pre).length oc) := fun o => (Below.cell ((Below.refl w1.heap.size w1).alloc (Nat.le_refl _) o) (World.block_lt_of_cell? _ _ k0)).trans k0; clear hu hb1))
    refine QS_normal trivial (fun _ => ?_)
    refine wpT_fork rfl rfl ?_ ?_
    focus go_wp2
    refine QS_normal trivial (fun _ => ?_)
    refine wpT_alone rfl ?_
    focus go_wp2
    refine QS_normal trivial (fun _ => ?_)
    refine wpT_alone rfl ?_
    focus ((try simp only [List.getElem_toArray, List.getElem_cons_succ, List.getElem_cons_zero]); refine wpList_app_row rfl _ _ rfl (w.heap.size + 2) _ (ds pre) rfl (HO.out.same (CellsSame.of_below (HBW.out.alloc HBW.out.size _))) w1.heap.size _ _ x.d rfl ((ownsRow_mono HU.out (by have h3 : W.drew.heap.size = W.heap.size := rfl; omega)).alloc _) (cells_of_block heap_alloc_eq 0 _ rfl).1 (by omega) (by have := HBW.out.size; simp; omega) ?_; intro v2 w2 hown hgr; obtain ⟨av, cv, rfl⟩ := hown.lv; have HO2 := Lib.hid hown; have HB2 := Lib.hid (show Keeps (fun i => some i = (Value.slice oa (ds pre).length oc).ownBlock) W w2 from (Keeps.of_below (HBW.out.alloc HBW.out.size _)).trans (grownBy_keeps' hgr)); obtain ⟨m0, n0⟩ := cells_of_block ((HB2.out.block _ (heap_lt HC.out) (fun e => HNb.out e.symm)).trans HC.out) 0 _ rfl; clear hown hgr; go_wp2)
    refine QS_normal trivial (fun _ => ?_)
    refine wpT_alone rfl ?_
    focus go_wp2
    refine QS_normal trivial (fun _ => ?_)
    refine wpT_nil ?_
    rotate_left
    focus go_wp2
    refine QS_normal trivial (fun _ => ?_)
    refine wpT_alone rfl ?_
    focus go_wp2
    refine QS_normal trivial (fun _ => ?_)
    refine wpT_alone rfl ?_
    focus ((try simp only [List.getElem_toArray, List.getElem_cons_succ, List.getElem_cons_zero]); refine wpList_app_row rfl _ _ rfl (w.heap.size + 2) _ (ds pre) rfl (HO.out.same (CellsSame.of_below (HBW.out.alloc HBW.out.size _))) w1.heap.size _ _ x.d rfl ((ownsRow_mono HU.out (by have h3 : W.drew.heap.size = W.heap.size := rfl; omega)).alloc _) (cells_of_block heap_alloc_eq 0 _ rfl).1 (by omega) (by have := HBW.out.size; simp; omega) ?_; intro v2 w2 hown hgr; obtain ⟨av, cv, rfl⟩ := hown.lv; have HO2 := Lib.hid hown; have HB2 := Lib.hid (show Keeps (fun i => some i = (Value.slice oa (ds pre).length oc).ownBlock) W w2 from (Keeps.of_below (HBW.out.alloc HBW.out.size _)).trans (grownBy_keeps' hgr)); obtain ⟨m0, n0⟩ := cells_of_block ((HB2.out.block _ (heap_lt HC.out) (fun e => HNb.out e.symm)).trans HC.out) 0 _ rfl; clear hown hgr; go_wp2)
    refine QS_normal trivial (fun _ => ?_)
    refine wpT_alone rfl ?_
    focus go_wp2
    refine QS_normal trivial (fun _ => ?_)
    refine wpT_nil ?_
    rotate_left
    all_goals
      gi_wp2
      have h1 := HO2.out
      simp only [List.length_append, List.length_cons, List.length_nil, Nat.zero_add] at h1
      have h2 := row_round HB.out hW4 HO.out HC.out HB2.out h1
      have h3 : ds (pre ++ [x]) = ds pre ++ [x.d] := by simp [ds]
      rw [← h3] at h2
      exact h2
  case done =>
    rintro D xs W hD ⟨hP, _⟩ ⟨⟨ov, hc, ho⟩, hb⟩ hK
    have hds : ds xs = rs := parsed_unique hP HRS.out
    obtain ⟨c0, f0⟩ := cells_of_block hc 0 ov rfl
    rw [hds] at ho
    obtain ⟨oa, oc, rfl⟩ := ho.lv
    have HO := Lib.hid ho
    have HB := Lib.hid hb
    have HK := Lib.hid hK
    have HD := Lib.hid hD
    clear ho hb hK hD hds hP hc
    go_wp2
    have hD2 : w.heap.size + 2 ≤ D := by have := HD.out; simpa using this
    refine marks_ret rfl HK.out (fun w => results_tmp rfl _ _ _) ⟨_, rfl, ?_, below_putObj HB.out (by omega)⟩
    have h1 := HO.out.same (CellsSame.putObj (o' := .deferred none) HK.out rfl)
    obtain ⟨vs, e1, e2, e3⟩ := h1
    exact ⟨vs, e1, ownsRow_mono e2 (by omega), fun i a b => ownsRow_mono (e3 i a b) (by omega)⟩

end Go.Proofs.Ytmkfiecdgghceaa
