/- A part of the walks: contracts of functions. -/
import Derived.Test.YtemeedfldapcjaaR8
import Derived.Test.YtemeedfldapcjaaQ7
namespace Go.Proofs.Ytemeedfldapcjaa
open Go.RowKit
set_option linter.unusedVariables false
set_option linter.unusedSimpArgs false
def RQ.drop (r : RQ) (i : Nat) : RQ := { r with l := r.l.eraseIdx i }

/-- nothing is due -/
def NoneDue (r : RQ) (now : Int) : Prop := r.l = [] ∨ ∃ (i : Nat) (hi : i < r.l.length), FirstAt r.l i ∧ ¬ r.l[i].2 ≤ now

theorem wpList_append_part {P : Program} {w : World} {ops : Array Oper} {rest : List Oper} {o : Oper} {a : Act} {Q : Exit → Act → World → Prop} (hgd : o.guard = none) (s x : Operand) (t : TypeId)
    (ho : o.op = .call { callee := .builtin .append, args := #[s, x], argTypes := #[t, t] }) (e : TypeId) (z : Value) (bytes : Nat) (ht : P.underlying t = some (.slice e)) (hi : (P.info? e).map (fun i => (i.zero, i.size, i.bytes)) = some (some z, 3, bytes))
    (hzs : z.cells.size = 3) (hby : bytes ≤ 64) (base : Nat) (v : Value) (n : Nat) (xs : List Value) (hs : a.eval s = v) (hown : w.ownsRow base e 3 v n xs) (g off m c : Nat) (news fl : List Value) (hx : a.eval x = .slice (some ⟨g, off, none⟩) m c)
    (hl : news.length = m * 3) (hfl : ∀ j, j < m * 3 → news[j]? = fl[off + j]?) (hcells : ∀ o u, fl[o]? = some u → w.cell? ⟨g, o, none⟩ = some u)
    (h1 : ∀ u ∈ news, u.oneCell' = true) (hlen : n + m ≤ 1000000) (hbase : base ≤ w.heap.size)
    (h : ∀ v' w', w'.ownsRow base e 3 v' (n + m) (xs ++ news) → w.grownBy w' v.ownBlock → wpList P ops Q rest (a.put o.dst v') w') : wpList P ops Q (o :: rest) a w := by
  obtain ⟨i, hi1, hi2, hi3, hi4⟩ := info_parts hi
  refine wpList_append_own w hgd s x t ho base e i z 3 bytes ht hi1 hi2 hi3 hi4 hzs (by omega) v n xs hs hown ⟨g, off, none⟩ m c news hx hl ?_ h1 (by unfold maxLen; omega) ?_ hbase (fun v' w' a b _ => h v' w' a b)
  · intro j u hu
    have hj : j < m * 3 := by rw [← hl]; exact (List.getElem?_eq_some_iff.1 hu).1
    have := hcells (off + j) u (by rw [← hfl j hj]; exact hu)
    by_cases hj0 : j = 0
    · subst hj0; simpa [Addr.add] using this
    · simpa [Addr.add, hj0] using this
  · have : (n + m) * bytes ≤ 1000000 * 64 := Nat.mul_le_mul hlen hby
    omega

theorem flat_take {α : Type} (f : α → List Value) (hf : ∀ a, (f a).length = 3) (l : List α) (i : Nat) (hi : i ≤ l.length) : ((l.take i).flatMap f).length = i * 3 ∧ ∀ j, j < i * 3 → ((l.take i).flatMap f)[j]? = (l.flatMap f)[0 + j]? := by
  refine ⟨by rw [flat_len f hf]; simp; omega, fun j hj => ?_⟩
  have e : l.flatMap f = (l.take i).flatMap f ++ (l.drop i).flatMap f := by rw [← List.flatMap_append, List.take_append_drop]
  rw [e, Nat.zero_add, List.getElem?_append_left]
  rw [flat_len f hf]; simp; omega
theorem flat_drop {α : Type} (f : α → List Value) (hf : ∀ a, (f a).length = 3) (l : List α) (i : Nat) (hi : i ≤ l.length) : ((l.drop i).flatMap f).length = (l.length - i) * 3 ∧ ∀ j, j < (l.length - i) * 3 → ((l.drop i).flatMap f)[j]? = (l.flatMap f)[i * 3 + j]? := by
  refine ⟨by rw [flat_len f hf]; simp, fun j hj => ?_⟩
  have e : l.flatMap f = (l.take i).flatMap f ++ (l.drop i).flatMap f := by rw [← List.flatMap_append, List.take_append_drop]
  rw [e, List.getElem?_append_right (by rw [flat_len f hf]; simp; omega)]
  congr 1
  rw [flat_len f hf]; simp
  have : min i l.length = i := by omega
  rw [this]; omega
theorem one_flat {l : List (GKey × Int)} : ∀ u ∈ l.flatMap cellsI, u.oneCell' = true := one_cellsI l

theorem storeL_done {R : RLoc} {r : RQ} {w w1 X : World} {v' : Value} {n b : Nat} {xs : List Value} (hR1 : RAt w1 R r) (hK1 : Keeps R.mine w w1) (hB : Below w1.heap.size w1 X) (hA : X.ownsRow b 79 3 v' n xs) (hb : w1.heap.size ≤ b) (l' : List (GKey × Int)) (hn : n = l'.length)
    (hxs : xs = l'.flatMap cellsI) : RAt (X.setCell ⟨R.rq, 0, none⟩ v') ⟨R.rq, v', R.vf⟩ { r with l := l' } ∧ Keeps R.mine w (X.setCell ⟨R.rq, 0, none⟩ v') ∧ R.Next ⟨R.rq, v', R.vf⟩ w ∧ (∀ k, RLoc.mine ⟨R.rq, v', R.vf⟩ k → R.mine k ∨ w1.heap.size ≤ k) := by
  subst hn hxs
  have hlt := hR1.lt
  have hrq := hlt R.rq (.inl rfl)
  have hd : X.heap[R.rq]? = some (.cells #[R.vl, R.vf] 76) := (hB.block _ hrq).trans hR1.hd
  have hown : ∀ k, RLoc.mine ⟨R.rq, v', R.vf⟩ k → R.mine k ∨ w1.heap.size ≤ k := by
    rintro k' (h | h | h)
    · exact .inl (.inl h)
    · have h1 := (row_lt hA h).1
      exact .inr (by omega)
    · exact .inl (.inr (.inr h))
  refine ⟨⟨?_, ?_, ?_⟩, (hK1.trans (Keeps.of_below hB)).setCell (fun _ => .inl rfl) _, ⟨rfl, fun k hk => (hown k hk).imp id (fun h => Nat.le_trans hK1.size h)⟩, hown⟩
  · rw [heap_setCell_same hd]; rfl
  · refine row_own (row_base hA) fun k' hk' => heap_setCell_ne ?_
    have := (row_lt hA hk').1
    simp only; omega
  · refine row_own (row_below hR1.hf hB (fun k' hk' => (row_lt hR1.hf hk').2)) fun k' hk' => heap_setCell_ne ?_
    exact (hR1.apart.2 k' hk').1

set_option maxRecDepth 100000 in
set_option maxHeartbeats 4000000 in
theorem takeR_any (R : RLoc) (r : RQ) (now : Int) (w : World) (h : RAt w R r) (hlen : r.l.length < 1000) :
    Calls Try.prog 45 #[.pointer (some ⟨R.rq, 0, none⟩), .int .u64 now] w fun e w' =>
      (NoneDue r now ∧ e = .returned (takeV none) ∧ Below w.heap.size w w') ∨
      ∃ (i : Nat) (hi : i < r.l.length), FirstAt r.l i ∧ r.l[i].2 ≤ now ∧ e = .returned (takeV (some r.l[i].1)) ∧ ∃ R', RAt w' R' (r.drop i) ∧ Keeps R.mine w w' ∧ R.Next R' w := by
  have h' := h.keep ((Keeps.refl (fun _ => False) w).alloc (.cells #[.int .u8 0, .string ⟨#[]⟩] 28)) (by simp)
  have H := firstR_any R r _ h'
  have hK := (Keeps.refl R.mine w).alloc (.cells #[.int .u8 0, .string ⟨#[]⟩] 28)
  have hB := (Below.refl w.heap.size w).alloc (Nat.le_refl _) (.cells #[.int .u8 0, .string ⟨#[]⟩] 28)
  have hbx : (w.alloc (.cells #[.int .u8 0, .string ⟨#[]⟩] 28)).heap[w.heap.size]? = some (.cells #[.int .u8 0, .string ⟨#[]⟩] 28) := heap_alloc_eq
  have hrow := h'.hl
  have hmx : ¬ R.mine w.heap.size := fun hm => by have := h.lt _ hm; omega
  have HR := Lib.hid h'
  have HMX := Lib.hid hmx
  obtain ⟨ao, cap, hv, h1, h2, h3⟩ := row_open hrow
  have hd := h'.hd
  rw [hv] at hd
  have hap := h'.apart
  have HAP := Lib.hid hap
  clear h h' hap hmx
  go_enter Try.func45, Try.ntmps45
  go_wp2_with fail
  refine H.mono ?_
  clear H
  rintro e w1 ⟨a, rfl, hf, hst⟩
  have hbx1 : w1.heap[w.heap.size]? = some (.cells #[.int .u8 0, .string ⟨#[]⟩] 28) := by rw [hst.heap]; exact hbx
  have hd1 : w1.heap[R.rq]? = some (.cells #[.slice ao r.l.length cap, R.vf] 76) := by rw [hst.heap]; exact hd
  have hB1 : Below w.heap.size w w1 := hB.trans (hst.b.mono hB.size)
  have hK1 : Keeps R.mine w w1 := hK.trans (Keeps.of_below hst.b)
  have hR1 : RAt w1 R r := HR.out.keep (Keeps.of_below (F := fun _ => False) hst.b) (by simp)
  have h3' : 0 < r.l.length → ∃ g cur, ao = some ⟨g, 0, none⟩ ∧ w1.heap[g]? = some (.cells cur 79 (0, 0)) ∧ cur.size = cap * 3 ∧ cur.toList.take (r.l.length * 3) = r.l.flatMap cellsI := by rw [hst.heap]; exact h3
  have hlt0 : w.heap.size < w1.heap.size := heap_lt hbx1
  clear hst hB hK hbx hd h3 HR hrow
  obtain ⟨z0, y0⟩ := cells_of_block hbx1 0 _ rfl
  obtain ⟨z1, y1⟩ := cells_of_block hbx1 1 _ rfl
  obtain ⟨c0, f0⟩ := cells_of_block hd1 0 _ rfl
  simp only [List.getElem_toArray, List.getElem_cons_zero, List.getElem_cons_succ] at c0 z0 z1
  have HB1 := Lib.hid hB1
  have HK1 := Lib.hid hK1
  have HR1 := Lib.hid hR1
  have HBX := Lib.hid hbx1
  have HD1 := Lib.hid hd1
  clear hB1 hK1 hR1 hbx1 hd1
  rcases hf with ⟨hl0, rfl⟩ | ⟨i, hi, _, rfl, q1, q2⟩
  · have HN := Lib.hid (show NoneDue r now from .inl (List.eq_nil_of_length_eq_zero hl0))
    clear hl0 h3'
    go_wp2
    refine bodyPost_ret (v := takeV none) (by simp [takeV, results, Try.results45, go_sem, z0, z1, World.cell?_setCell_far, World.cell?_setCell_same', World.cell?_setCell_other]) rfl (.inl ⟨HN.out, rfl, ?_⟩)
    exact (HB1.out.setCell (by simp) _).setCell (by simp) _
  · have HF := Lib.hid (show FirstAt r.l i from .inr ⟨i, hi, hi, rfl, q1, q2⟩)
    clear q1 q2
    obtain ⟨g, cur, rfl, hg, hsz, htk⟩ := h3' (by omega)
    have hcell : ∀ j (hj : j < r.l.length) o, o < 3 → ∀ v, (cellsI r.l[j])[o]? = some v → w1.cell? ⟨g, j * 3 + o, none⟩ = some v := by
      intro j hj o ho v hv
      have hx0 : (r.l.flatMap cellsI)[j * 3 + o]? = some v := by rw [flat3 _ (fun _ => rfl) _ _ _ ho]; simp [hj, hv]
      exact (row_cell hg htk hx0 (by omega)).1
    have x2 := hcell i hi 2 (by omega) _ rfl
    have x1 := hcell i hi 1 (by omega) _ rfl
    have x0 := hcell i hi 0 (by omega) _ rfl
    simp only [Nat.add_zero] at x0
    have hi0 : ¬ (i : Int) < 0 := by omega
    unfold maxLen at h2
    have HG := Lib.hid hg
    have HT := Lib.hid htk
    have HSZ := Lib.hid hsz
    have HV := Lib.hid hv
    clear h3' hg htk hsz hcell hv
    by_cases hdu : r.l[i].2 ≤ now
    · have hdu2 : ¬ now < r.l[i].2 := by omega
      go_wp2
      have hbox : (w1.alloc (.cells #[.int .u8 r.l[i].1.kind, .string r.l[i].1.name] 28)).heap[w1.heap.size]? = some (.cells #[.int .u8 r.l[i].1.kind, .string r.l[i].1.name] 28) := heap_alloc_eq
      have hB2 := (Below.refl w1.heap.size w1).alloc (Nat.le_refl _) (.cells #[.int .u8 r.l[i].1.kind, .string r.l[i].1.name] 28)
      generalize hW2 : w1.alloc (.cells #[.int .u8 r.l[i].1.kind, .string r.l[i].1.name] 28) = W2 at *
      clear hW2
      have hlg := heap_lt HG.out
      have hlq := heap_lt HD1.out
      have c2 := (hB2.cell (p := ⟨R.rq, 0, none⟩) hlq).trans c0
      have f2 := (World.frozen?_of_block (a := ⟨R.rq, 0, none⟩) (hB2.block _ hlq)).trans f0
      have hsz2 : w1.heap.size < W2.heap.size := heap_lt hbox
      have hlq2 : R.rq < W2.heap.size := by omega
      have hlg2 : g < W2.heap.size := by omega
      have hfl2 : ∀ o u, (r.l.flatMap cellsI)[o]? = some u → W2.cell? ⟨g, o, none⟩ = some u := by
        intro o u hu
        have ho : o < r.l.length * 3 := by rw [← flat_len cellsI (fun _ => rfl)]; exact (List.getElem?_eq_some_iff.1 hu).1
        exact (hB2.cell (p := ⟨g, o, none⟩) hlg).trans (row_cell HG.out HT.out hu ho).1
      have HFL := Lib.hid hfl2
      obtain ⟨t1, t2⟩ := flat_take cellsI (fun _ => rfl) r.l i (by omega)
      obtain ⟨t3, t4⟩ := flat_drop cellsI (fun _ => rfl) r.l (i + 1) (by omega)
      have T1 := Lib.hid t1
      have T2 := Lib.hid t2
      have T3 := Lib.hid t3
      have T4 := Lib.hid t4
      have hw1 : IntKind.i64.wrap ((i : Int) + 1) = (i : Int) + 1 := by simp [IntKind.wrap, IntKind.bits, IntKind.signed]; omega
      have hic1 : i ≤ cap := by omega
      have hic2 : (i : Int) + 1 ≤ r.l.length := by omega
      have hB := (Below.refl W2.heap.size W2).drew
      have HBOX := Lib.hid hbox
      have HB2 := Lib.hid hB2
      clear hfl2 t1 t2 t3 t4 hbox hB2 c0 f0 x0 x1 x2 z0 z1 y0 y1
      by_cases hce : cap = i + 1
      · have hm0 : r.l.length - (i + 1) = 0 := by omega
        have hceE : (cap = i + 1) = True := by simp [hce]
        have HOFF : Hid (∀ j, j < (r.l.length - (i + 1)) * 3 → ((r.l.drop (i + 1)).flatMap cellsI)[j]? = (r.l.flatMap cellsI)[0 + j]?) := Lib.hid (fun j hj => absurd hj (by omega))
        clear hce hm0
        refine wp_region_tree (fun w' => (w'.cell? ⟨R.rq, 0, none⟩ = some (.slice (some ⟨g, 0, none⟩) r.l.length cap))) (.t 0 (.t 1 (.t 2 (.t 3 (.t 4 (.t 5 (.t 6 (.t 8 (.t 9 (.t 10 (.t 11 (.t 12 (.t 13 (.t 14 (.a 7 (.a 15 (.t 16 .nil))))))))))))))))) (by kernel_rfl) (by kernel_rfl) (by kernel_rfl) ?_ ?_
        · exact (by exact (hB.cell (p := ⟨R.rq, 0, none⟩) hlq2).trans c2)
        (generalize W2.drew = W0 at *)
        apply wpT_takeK rfl _ (by first | rfl | (simp [Region.wanted, yielded]; done))
        · intro w' hS
          have s0 := hS
          clear hS
          go_simp
          try rfl
        intro K hK
        go_simp
        refine hK _ ?_
        clear hK K
        apply wpT_takeK rfl _ (by first | rfl | (simp [Region.wanted, yielded]; done))
        · intro w' hS
          have s0 := hS
          clear hS
          go_simp
          try rfl
        intro K hK
        go_simp
        refine hK _ ?_
        clear hK K
        apply wpT_takeK rfl _ (by first | rfl | (simp [Region.wanted, yielded]; done))
        · intro w' hS
          have s0 := hS
          clear hS
          go_simp
          try rfl
        intro K hK
        go_simp
        refine hK _ ?_
        clear hK K
        apply wpT_takeK rfl _ (by first | rfl | (simp [Region.wanted, yielded]; done))
        · intro w' hS
          have s0 := hS
          clear hS
          go_simp
          try rfl
        intro K hK
        go_simp
        refine hK _ ?_
        clear hK K
        apply wpT_takeK rfl _ (by first | rfl | (simp [Region.wanted, yielded]; done))
        · intro w' hS
          have s0 := hS
          clear hS
          go_simp
          try rfl
        intro K hK
        go_simp
        refine hK _ ?_
        clear hK K
        apply wpT_takeK rfl _ (by first | rfl | (simp [Region.wanted, yielded]; done))
        · intro w' hS
          have s0 := hS
          clear hS
          go_simp
          try rfl
        intro K hK
        go_simp
        refine hK _ ?_
        clear hK K
        refine wpT_takeK rfl (.slice (some ⟨g, 0, none⟩) i cap) (by first | rfl | (simp [Region.wanted, yielded]; done)) ?_ ?_
        · intro w' hS
          have s0 := hS
          go_simp
        intro K hK
        go_simp
        refine hK _ ?_
        clear hK K
        apply wpT_takeK rfl _ (by first | rfl | (simp [Region.wanted, yielded]; done))
        · intro w' hS
          have s0 := hS
          clear hS
          go_simp
          try rfl
        intro K hK
        go_simp
        refine hK _ ?_
        clear hK K
        apply wpT_takeK rfl _ (by first | rfl | (simp [Region.wanted, yielded]; done))
        · intro w' hS
          have s0 := hS
          clear hS
          go_simp
          try rfl
        intro K hK
        go_simp
        refine hK _ ?_
        clear hK K
        apply wpT_takeK rfl _ (by first | rfl | (simp [Region.wanted, yielded]; done))
        · intro w' hS
          have s0 := hS
          clear hS
          go_simp
          try rfl
        intro K hK
        go_simp
        refine hK _ ?_
        clear hK K
        apply wpT_takeK rfl _ (by first | rfl | (simp [Region.wanted, yielded]; done))
        · intro w' hS
          have s0 := hS
          clear hS
          go_simp
          try rfl
        intro K hK
        go_simp
        refine hK _ ?_
        clear hK K
        apply wpT_takeK rfl _ (by first | rfl | (simp [Region.wanted, yielded]; done))
        · intro w' hS
          have s0 := hS
          clear hS
          go_simp
          try rfl
        intro K hK
        go_simp
        refine hK _ ?_
        clear hK K
        apply wpT_takeK rfl _ (by first | rfl | (simp [Region.wanted, yielded]; done))
        · intro w' hS
          have s0 := hS
          clear hS
          go_simp
          try rfl
        intro K hK
        go_simp
        refine hK _ ?_
        clear hK K
        refine wpT_takeK rfl (.slice (some ⟨g, 0, none⟩) (r.l.length - (i + 1)) (cap - (i + 1))) (by first | rfl | (simp [Region.wanted, yielded]; done)) ?_ ?_
        · intro w' hS
          have s0 := hS
          (go_simp; (try simp [hw1, hic1, hic2, hceE]); (try (intro hneg; exfalso; omega)))
        intro K hK
        go_simp
        refine hK _ ?_
        clear hK K
        refine wpT_alone rfl ?_
        (refine wpList_append_part rfl _ _ 73 rfl 79 _ 32 Try.underlying73 info79 rfl (by omega) W2.heap.size _ 0 [] rfl (World.ownsRow_nil _ _ _ _) g 0 i cap _ _ rfl T1.out T2.out (fun o u hu => (hB.cell (p := ⟨g, o, none⟩) hlg2).trans (HFL.out o u hu)) one_flat (by omega) hB.size ?_; intro vn wx hrow hg; have hB := hB.trans (Below.grown_at hg (fun k hk => by cases hk) hB.size); have hA := hrow; clear hrow hg; go_wp2)
        refine QS_abs (fun wn hwn => ?_)
        (subst hwn)
        refine And.intro (by exact (hB.cell (p := ⟨R.rq, 0, none⟩) hlq2).trans c2) ?_
        refine wpT_alone rfl ?_
        (refine wpList_append_part rfl _ _ 73 rfl 79 _ 32 Try.underlying73 info79 rfl (by omega) W2.heap.size _ _ _ rfl hA g 0 (r.l.length - (i + 1)) (cap - (i + 1)) _ _ rfl T3.out HOFF.out (fun o u hu => (hB.cell (p := ⟨g, o, none⟩) hlg2).trans (HFL.out o u hu)) one_flat (by omega) hB.size ?_; intro vz wx hrow hg; have hB := hB.trans (Below.grown_at hg (fun k hk => (row_lt hA hk).1) hB.size); have hA := hrow; clear hrow hg; go_wp2)
        refine QS_abs (fun wn hwn => ?_)
        (subst hwn)
        refine And.intro (by exact (hB.cell (p := ⟨R.rq, 0, none⟩) hlq2).trans c2) ?_
        apply wpT_takeK rfl _ (by first | rfl | (simp [Region.wanted, yielded]; done))
        · intro w' hS
          have s0 := hS
          clear hS
          go_simp
          try rfl
        intro K hK
        go_simp
        refine hK _ ?_
        clear hK K
        refine wpT_end ?_
        have hq0 := (hB.cell (p := ⟨R.rq, 0, none⟩) hlq2).trans c2
        have hz0 := (World.frozen?_of_block (a := ⟨R.rq, 0, none⟩) (hB.block _ hlq2)).trans f2
        have hbx2 := (hB.block _ hsz2).trans HBOX.out
        have hres := (hB.block _ (Nat.lt_trans hlt0 hsz2)).trans ((HB2.out.block _ hlt0).trans HBX.out)
        obtain ⟨k0, m0⟩ := cells_of_block hbx2 0 _ rfl
        obtain ⟨k1, m1⟩ := cells_of_block hbx2 1 _ rfl
        obtain ⟨z0, y0⟩ := cells_of_block hres 0 _ rfl
        obtain ⟨z1, y1⟩ := cells_of_block hres 1 _ rfl
        simp only [List.getElem_toArray, List.getElem_cons_zero, List.getElem_cons_succ] at k0 k1 z0 z1
        simp only [Nat.zero_add] at hA
        obtain ⟨ao2, cap2, hvz, _⟩ := row_open (row_base hA)
        subst hvz
        have hdone := storeL_done HR1.out HK1.out (HB2.out.trans (hB.mono HB2.out.size)) hA HB2.out.size (r.l.eraseIdx i) (by rw [List.length_eraseIdx_of_lt hi]; omega) (by rw [List.eraseIdx_eq_take_drop_succ, List.flatMap_append]; simp)
        have HDN := Lib.hid hdone
        have hne1 : R.rq ≠ w.heap.size := fun e => HMX.out (.inl e.symm)
        clear hA hdone hbx2 hres hB
        go_wp2
        refine bodyPost_ret (v := takeV (some r.l[i].1)) (by simp [takeV, results, Try.results45, go_sem, z0, z1, hne1, World.cell?_setCell_far, World.cell?_setCell_same', World.cell?_setCell_other]) rfl (.inr ⟨i, hi, HF.out, hdu, rfl, _, HDN.out.1.keep (F := fun k => k = w.heap.size) (((Keeps.refl (fun k => k = w.heap.size) _).setCell (p := ⟨w.heap.size, 0, none⟩) (fun _ => rfl) _).setCell (p := ⟨w.heap.size, 1, none⟩) (fun _ => rfl) _) ?_, (HDN.out.2.1.setCell (p := ⟨w.heap.size, 0, none⟩) (fun h => absurd h (by simp)) _).setCell (p := ⟨w.heap.size, 1, none⟩) (fun h => absurd h (by simp)) _, HDN.out.2.2.1⟩)
        intro k' hk' e
        subst e
        rcases HDN.out.2.2.2 _ hk' with h | h
        · exact HMX.out h
        · omega
      · have hceE : (cap = i + 1) = False := by simp [hce]
        have HOFF := T4
        clear hce
        refine wp_region_tree (fun w' => (w'.cell? ⟨R.rq, 0, none⟩ = some (.slice (some ⟨g, 0, none⟩) r.l.length cap))) (.t 0 (.t 1 (.t 2 (.t 3 (.t 4 (.t 5 (.t 6 (.t 8 (.t 9 (.t 10 (.t 11 (.t 12 (.t 13 (.t 14 (.a 7 (.a 15 (.t 16 .nil))))))))))))))))) (by kernel_rfl) (by kernel_rfl) (by kernel_rfl) ?_ ?_
        · exact (by exact (hB.cell (p := ⟨R.rq, 0, none⟩) hlq2).trans c2)
        (generalize W2.drew = W0 at *)
        apply wpT_takeK rfl _ (by first | rfl | (simp [Region.wanted, yielded]; done))
        · intro w' hS
          have s0 := hS
          clear hS
          go_simp
          try rfl
        intro K hK
        go_simp
        refine hK _ ?_
        clear hK K
        apply wpT_takeK rfl _ (by first | rfl | (simp [Region.wanted, yielded]; done))
        · intro w' hS
          have s0 := hS
          clear hS
          go_simp
          try rfl
        intro K hK
        go_simp
        refine hK _ ?_
        clear hK K
        apply wpT_takeK rfl _ (by first | rfl | (simp [Region.wanted, yielded]; done))
        · intro w' hS
          have s0 := hS
          clear hS
          go_simp
          try rfl
        intro K hK
        go_simp
        refine hK _ ?_
        clear hK K
        apply wpT_takeK rfl _ (by first | rfl | (simp [Region.wanted, yielded]; done))
        · intro w' hS
          have s0 := hS
          clear hS
          go_simp
          try rfl
        intro K hK
        go_simp
        refine hK _ ?_
        clear hK K
        apply wpT_takeK rfl _ (by first | rfl | (simp [Region.wanted, yielded]; done))
        · intro w' hS
          have s0 := hS
          clear hS
          go_simp
          try rfl
        intro K hK
        go_simp
        refine hK _ ?_
        clear hK K
        apply wpT_takeK rfl _ (by first | rfl | (simp [Region.wanted, yielded]; done))
        · intro w' hS
          have s0 := hS
          clear hS
          go_simp
          try rfl
        intro K hK
        go_simp
        refine hK _ ?_
        clear hK K
        refine wpT_takeK rfl (.slice (some ⟨g, 0, none⟩) i cap) (by first | rfl | (simp [Region.wanted, yielded]; done)) ?_ ?_
        · intro w' hS
          have s0 := hS
          go_simp
        intro K hK
        go_simp
        refine hK _ ?_
        clear hK K
        apply wpT_takeK rfl _ (by first | rfl | (simp [Region.wanted, yielded]; done))
        · intro w' hS
          have s0 := hS
          clear hS
          go_simp
          try rfl
        intro K hK
        go_simp
        refine hK _ ?_
        clear hK K
        apply wpT_takeK rfl _ (by first | rfl | (simp [Region.wanted, yielded]; done))
        · intro w' hS
          have s0 := hS
          clear hS
          go_simp
          try rfl
        intro K hK
        go_simp
        refine hK _ ?_
        clear hK K
        apply wpT_takeK rfl _ (by first | rfl | (simp [Region.wanted, yielded]; done))
        · intro w' hS
          have s0 := hS
          clear hS
          go_simp
          try rfl
        intro K hK
        go_simp
        refine hK _ ?_
        clear hK K
        apply wpT_takeK rfl _ (by first | rfl | (simp [Region.wanted, yielded]; done))
        · intro w' hS
          have s0 := hS
          clear hS
          go_simp
          try rfl
        intro K hK
        go_simp
        refine hK _ ?_
        clear hK K
        apply wpT_takeK rfl _ (by first | rfl | (simp [Region.wanted, yielded]; done))
        · intro w' hS
          have s0 := hS
          clear hS
          go_simp
          try rfl
        intro K hK
        go_simp
        refine hK _ ?_
        clear hK K
        apply wpT_takeK rfl _ (by first | rfl | (simp [Region.wanted, yielded]; done))
        · intro w' hS
          have s0 := hS
          clear hS
          go_simp
          try rfl
        intro K hK
        go_simp
        refine hK _ ?_
        clear hK K
        refine wpT_takeK rfl (.slice (some ⟨g, (i + 1) * 3, none⟩) (r.l.length - (i + 1)) (cap - (i + 1))) (by first | rfl | (simp [Region.wanted, yielded]; done)) ?_ ?_
        · intro w' hS
          have s0 := hS
          (go_simp; (try simp [hw1, hic1, hic2, hceE]); (try (intro hneg; exfalso; omega)))
        intro K hK
        go_simp
        refine hK _ ?_
        clear hK K
        refine wpT_alone rfl ?_
        (refine wpList_append_part rfl _ _ 73 rfl 79 _ 32 Try.underlying73 info79 rfl (by omega) W2.heap.size _ 0 [] rfl (World.ownsRow_nil _ _ _ _) g 0 i cap _ _ rfl T1.out T2.out (fun o u hu => (hB.cell (p := ⟨g, o, none⟩) hlg2).trans (HFL.out o u hu)) one_flat (by omega) hB.size ?_; intro vn wx hrow hg; have hB := hB.trans (Below.grown_at hg (fun k hk => by cases hk) hB.size); have hA := hrow; clear hrow hg; go_wp2)
        refine QS_abs (fun wn hwn => ?_)
        (subst hwn)
        refine And.intro (by exact (hB.cell (p := ⟨R.rq, 0, none⟩) hlq2).trans c2) ?_
        refine wpT_alone rfl ?_
        (refine wpList_append_part rfl _ _ 73 rfl 79 _ 32 Try.underlying73 info79 rfl (by omega) W2.heap.size _ _ _ rfl hA g ((i + 1) * 3) (r.l.length - (i + 1)) (cap - (i + 1)) _ _ rfl T3.out HOFF.out (fun o u hu => (hB.cell (p := ⟨g, o, none⟩) hlg2).trans (HFL.out o u hu)) one_flat (by omega) hB.size ?_; intro vz wx hrow hg; have hB := hB.trans (Below.grown_at hg (fun k hk => (row_lt hA hk).1) hB.size); have hA := hrow; clear hrow hg; go_wp2)
        refine QS_abs (fun wn hwn => ?_)
        (subst hwn)
        refine And.intro (by exact (hB.cell (p := ⟨R.rq, 0, none⟩) hlq2).trans c2) ?_
        apply wpT_takeK rfl _ (by first | rfl | (simp [Region.wanted, yielded]; done))
        · intro w' hS
          have s0 := hS
          clear hS
          go_simp
          try rfl
        intro K hK
        go_simp
        refine hK _ ?_
        clear hK K
        refine wpT_end ?_
        have hq0 := (hB.cell (p := ⟨R.rq, 0, none⟩) hlq2).trans c2
        have hz0 := (World.frozen?_of_block (a := ⟨R.rq, 0, none⟩) (hB.block _ hlq2)).trans f2
        have hbx2 := (hB.block _ hsz2).trans HBOX.out
        have hres := (hB.block _ (Nat.lt_trans hlt0 hsz2)).trans ((HB2.out.block _ hlt0).trans HBX.out)
        obtain ⟨k0, m0⟩ := cells_of_block hbx2 0 _ rfl
        obtain ⟨k1, m1⟩ := cells_of_block hbx2 1 _ rfl
        obtain ⟨z0, y0⟩ := cells_of_block hres 0 _ rfl
        obtain ⟨z1, y1⟩ := cells_of_block hres 1 _ rfl
        simp only [List.getElem_toArray, List.getElem_cons_zero, List.getElem_cons_succ] at k0 k1 z0 z1
        simp only [Nat.zero_add] at hA
        obtain ⟨ao2, cap2, hvz, _⟩ := row_open (row_base hA)
        subst hvz
        have hdone := storeL_done HR1.out HK1.out (HB2.out.trans (hB.mono HB2.out.size)) hA HB2.out.size (r.l.eraseIdx i) (by rw [List.length_eraseIdx_of_lt hi]; omega) (by rw [List.eraseIdx_eq_take_drop_succ, List.flatMap_append]; simp)
        have HDN := Lib.hid hdone
        have hne1 : R.rq ≠ w.heap.size := fun e => HMX.out (.inl e.symm)
        clear hA hdone hbx2 hres hB
        go_wp2
        refine bodyPost_ret (v := takeV (some r.l[i].1)) (by simp [takeV, results, Try.results45, go_sem, z0, z1, hne1, World.cell?_setCell_far, World.cell?_setCell_same', World.cell?_setCell_other]) rfl (.inr ⟨i, hi, HF.out, hdu, rfl, _, HDN.out.1.keep (F := fun k => k = w.heap.size) (((Keeps.refl (fun k => k = w.heap.size) _).setCell (p := ⟨w.heap.size, 0, none⟩) (fun _ => rfl) _).setCell (p := ⟨w.heap.size, 1, none⟩) (fun _ => rfl) _) ?_, (HDN.out.2.1.setCell (p := ⟨w.heap.size, 0, none⟩) (fun h => absurd h (by simp)) _).setCell (p := ⟨w.heap.size, 1, none⟩) (fun h => absurd h (by simp)) _, HDN.out.2.2.1⟩)
        intro k' hk' e
        subst e
        rcases HDN.out.2.2.2 _ hk' with h | h
        · exact HMX.out h
        · omega
    · have hdu2 : now < r.l[i].2 := by omega
      have HN := Lib.hid (show NoneDue r now from .inr ⟨i, hi, HF.out, hdu⟩)
      go_wp2
      refine bodyPost_ret (v := takeV none) (by simp [takeV, results, Try.results45, go_sem, z0, z1, World.cell?_setCell_far, World.cell?_setCell_same', World.cell?_setCell_other]) rfl (.inl ⟨HN.out, rfl, ?_⟩)
      exact (HB1.out.setCell (by simp) _).setCell (by simp) _
end Go.Proofs.Ytemeedfldapcjaa
