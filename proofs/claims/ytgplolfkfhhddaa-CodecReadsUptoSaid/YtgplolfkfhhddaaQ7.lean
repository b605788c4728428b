/- Layer 4 (codec): what the document reads as a change. -/
import Derived.Test.YtgplolfkfhhddaaQ6
import Derived.Test.YtgplolfkfhhddaaR7
namespace Go.Proofs.Ytgplolfkfhhddaa
open Go.RowKit
set_option linter.unusedVariables false
set_option linter.unusedSimpArgs false

theorem results_es {fn : Func} {tmps : Array Value} {w : World} {b : Nat} {t u : Tmp} {x : Value} (p : Ev) (hr : fn.results = #[.cell t 39, .tmp u]) (ht : tmps[t]?.getD undef = .pointer (some ⟨b, 0, none⟩)) (hu : tmps[u]?.getD undef = x) (h : ∀ k, w.cell? ⟨b, k, none⟩ = (cellsEv p)[k]?) :
    (results fn tmps).run Try.prog w = .ok (.tuple #[.agg (cellsEv p), x]) w := by
  have h0 := run_loadVar_ev0 p b w h
  simp [results, hr, ht, hu, asAddr, h0, Result.andThen]

/-- the document's reader of a change: the result's box, the reader behind it, and the change's box at q5 -/
structure QE (w W : World) (q5 : Nat) (c : Ev) (l : Bs) (b : Bool) : Prop where
  res : W.heap[w.heap.size]? = some (.cells (cellsEv evZ) 39 (0, 0))
  box : W.heap[q5]? = some (.cells (cellsEv c) 39 (0, 0))
  cur : QCur W w.heap.size (w.heap.size + 1) l b
  below : Below w.heap.size w W
  lt : w.heap.size + 1 < q5
theorem QE.step {w W W2 : World} {q5 : Nat} {c : Ev} {l r : Bs} {b b2 : Bool} (h : QE w W q5 c l b) (hk : KeepP (w.heap.size + 1) W W2) (hc : QCur W2 w.heap.size (w.heap.size + 1) r b2) : QE w W2 q5 c r b2 :=
  ⟨(hk.block _ (heap_lt h.res) (by omega)).trans h.res, (hk.block _ (heap_lt h.box) (by have := h.lt; omega)).trans h.box, hc, h.below.trans (hk.belowP (by omega) h.below.size), h.lt⟩
theorem QE.setAt {w W : World} {q5 : Nat} {c c2 : Ev} {l : Bs} {b : Bool} (h : QE w W q5 c l b) (k : Nat) (v : Value) (e : (cellsEv c).setIfInBounds k v = cellsEv c2) : QE w (W.setCell ⟨q5, k, none⟩ v) q5 c2 l b :=
  ⟨(heap_setCell_ne (by have := h.lt; simp; omega)).trans h.res, by rw [heap_setCell_same h.box, e], h.cur.keep2 (fun j hj => heap_setCell_ne (by have := h.lt; simp; omega)), h.below.setCell (p := ⟨q5, k, none⟩) (by have := h.lt; simp; omega) v, h.lt⟩
theorem QE.setBox {w W : World} {q5 : Nat} {c c2 : Ev} {l : Bs} {b : Bool} (h : QE w W q5 c l b) : QE w (Wset W q5 (.cells (cellsEv c2) 39 (0, 0))) q5 c2 l b :=
  ⟨(Wset_ne (by have := h.lt; omega)).trans h.res, Wset_same (heap_lt h.box), h.cur.keep2 (fun j hj => Wset_ne (by have := h.lt; omega)), belowWs h.below (by have := h.lt; omega), h.lt⟩

set_option maxRecDepth 100000 in
set_option maxHeartbeats 4000000 in
theorem qreadC_any (v : Value) (bs : Bs) (w : World) (h : SrcB w w.heap.size v bs) : Calls Try.prog 19 #[v] w fun e w' => ReadCR w w' e (readC bs) := by
  obtain ⟨a, c, rfl⟩ := h.rd
  have HS := Lib.hid h
  clear h
  have hZ := evZ_cells
  simp only [noText] at hZ
  have HZ := Lib.hid hZ
  clear hZ
  obtain ⟨W, hW⟩ : ∃ W, W = (w.alloc (.cells (cellsEv evZ) 39)).alloc (.cells #[.slice a bs.length c, .bool false] 68) := ⟨_, rfl⟩
  have hq : W.heap[w.heap.size]? = some (.cells (cellsEv evZ) 39 (0, 0)) := by
    rw [hW]; exact (heap_alloc_lt (by simp)).trans heap_alloc_eq
  have hp : W.heap[w.heap.size + 1]? = some (.cells #[.slice a bs.length c, .bool false] 68 (0, 0)) := by
    rw [hW]
    have := heap_alloc_eq (w := w.alloc (.cells (cellsEv evZ) 39)) (o := .cells #[.slice a bs.length c, .bool false] 68)
    simpa using this
  have hb : Below w.heap.size w W := by
    rw [hW]
    exact ((Below.refl w.heap.size w).alloc (Nat.le_refl _) _).alloc (by simp) _
  have HC := Lib.hid (show QCur W w.heap.size (w.heap.size + 1) bs false from ⟨_, hp, HS.out.start hb (Nat.le_refl _), by omega⟩)
  have HW := Lib.hid hW
  have HQ := Lib.hid hq
  have HB := Lib.hid hb
  clear hW hq hb hp
  go_enter Try.func19, Try.ntmps19
  go_wp2_with fail
  rw [← HZ.out, ← HW.out]
  refine (qnum_any _ _ _ bs false HC.out).mono ?_
  rintro e w2 ⟨_, r, b, rfl, ⟨x, rfl⟩, hq2, hk, hbb, hgg⟩
  have hq3 := (hk.block _ (heap_lt HQ.out) (by omega)).trans HQ.out
  have hb3 : Below w.heap.size w w2 := HB.out.trans (hk.belowP (by omega) HB.out.size)
  have hz : (w2.alloc (.cells (cellsEv evZ) 39)).heap[w2.heap.size]? = some (.cells (cellsEv evZ) 39 (0, 0)) := heap_alloc_eq
  conv at hz => lhs; rw [HZ.out]
  have hE0 : QE w (Wset (w2.alloc (.cells (cellsEv evZ) 39)) w2.heap.size (.cells (cellsEv ⟨x, false, objZ⟩) 39 (0, 0))) w2.heap.size ⟨x, false, objZ⟩ r b := by
    have hn := below_new w2 (.cells (cellsEv evZ) 39) (.cells (cellsEv ⟨x, false, objZ⟩) 39 (0, 0))
    have hlt : w.heap.size + 1 < w2.heap.size := by obtain ⟨v, h⟩ := hq2; exact heap_lt h.cells
    exact ⟨(hn.block _ (heap_lt hq3)).trans hq3, new_box _ _ _ _, hq2.keep2 (fun k hk => hn.block k (by omega)), hb3.trans (hn.mono hb3.size), hlt⟩
  rw [HZ.out] at hE0
  have HZ2 := Lib.hid hz
  have hev : Value.agg #[.int .u64 x, .bool false, .int .u8 0, .string ⟨#[]⟩, .int .u64 0, .int .u64 0, .bool false, .bool false, .string ⟨#[]⟩, .int .i64 0, .int .i64 0, .int .u8 0, .bool false, .bool false, .string ⟨#[]⟩, .string ⟨#[]⟩, .string ⟨#[]⟩, .string ⟨#[]⟩, .string ⟨#[]⟩, .int .u8 0, .int .u64 0, .int .u64 0] = .agg (cellsEv ⟨x, false, objZ⟩) := by
    simp [cellsEv, objZ_cells, noText]
  have HEV := Lib.hid hev
  clear hz hev
  go_wp2_with (refine wpList_storeEv rfl _ _ rfl w2.heap.size rfl ⟨x, false, objZ⟩ evZ HEV.out HZ2.out ?_)
  have HE0 := Lib.hid hE0
  have HBN := Lib.hid hbb
  have HGN := Lib.hid hgg
  clear hE0 hbb hgg hq2 hk hq3 hb3
  refine (qbyte_any _ _ _ r b HE0.out.cur).mono ?_
  rintro e w4 ⟨_, r4, b4, rfl, ⟨C, rfl, hC⟩, hq4, hk, hbb, hgg⟩
  have hE := HE0.out.step hk hq4
  have c1 := cells_all hE.box 1
  have f1 := frozen_all hE.box 1
  rw [cellsEv_1] at c1
  have hE1 := hE.setAt 1 (.bool ((C : Int) == 1)) (setGone _ _)
  have HE1 := Lib.hid hE1
  have HB4 := Lib.hid hbb
  have HG4 := Lib.hid hgg
  clear hE hE1 hbb hgg hq4 hk
  go_wp2_with fail
  refine (qobj_any _ _ _ r4 b4 HE1.out.cur).mono ?_
  rintro e w6 ⟨_, r6, b6, rfl, ⟨o, rfl⟩, hq6, hk, hbb, hgg⟩
  have hE := HE1.out.step hk hq6
  have HE6 := Lib.hid hE
  have HE7 := Lib.hid (hE.setBox (c2 := ⟨x, (C : Int) == 1, o⟩))
  have HB6 := Lib.hid hbb
  have HG6 := Lib.hid hgg
  clear hE hbb hgg hq6 hk
  have hN4 : b4 = true → readC bs = none := fun h4 => by
    by_cases hb : b = true
    · exact ch_n ((HBN.out hb).resolve_left (by simp))
    · obtain ⟨_, n, _, hn⟩ := HGN.out (by simpa using hb)
      exact ch_b hn ((HB4.out h4).resolve_left hb)
  have hN6 : b6 = true → readC bs = none := fun h6 => by
    by_cases h4 : b4 = true
    · exact hN4 h4
    · obtain ⟨hb, y, _, hy⟩ := HG4.out (by simpa using h4)
      obtain ⟨_, n, _, hn⟩ := HGN.out hb
      by_cases hc : y.toNat < 2
      · exact ch_o hn hy hc ((objD_lim _).symm.trans ((HB6.out h6).resolve_left h4))
      · exact ch_c hn hy hc
  have HN6 := Lib.hid hN6
  clear hN4 hN6
  obtain ⟨v7, h7⟩ := HE7.out.cur
  obtain ⟨a7, c7, rfl⟩ := h7.src.rd
  obtain ⟨L, hL⟩ : ∃ L, r6.length = L := ⟨_, rfl⟩
  have hc7 := h7.cells
  rw [hL] at hc7
  obtain ⟨e1, f7⟩ := cells_of_block hc7 1 (.bool b6) rfl
  obtain ⟨e0, f8⟩ := cells_of_block hc7 0 (.slice a7 L c7) rfl
  have HL := Lib.hid hL
  clear h7 hc7 hL c1 f1
  cases b6 with
  | true =>
    · skip
      go_wp2_with (first
        | refine wpList_storeObjAt rfl _ _ rfl w2.heap.size rfl o _ rfl HE6.out.box ?_
        | refine wpList_storeEv rfl _ _ rfl w.heap.size rfl evZ evZ rfl HE7.out.res ?_)
      refine bodyPost_ret (results_es evZ rfl rfl rfl (cells_all (Wset_same (heap_lt HE7.out.res)))) rfl ⟨?_, belowWs HE7.out.below (Nat.le_refl _)⟩
      rw [HN6.out (by first | rfl | trivial)]; rfl
  | false =>
    obtain ⟨h4, y, hye, hyo⟩ := HG6.out (by first | rfl | trivial)
    obtain ⟨hb, z, hze, hzo⟩ := HG4.out h4
    obtain ⟨_, n, hne, hno⟩ := HGN.out hb
    have hz2 : C = z.toNat := (byte_back hze).2
    have hx2 : x = (n : Int) := by cases hne; rfl
    have HYE := Lib.hid hye
    have HYO := Lib.hid ((objD_lim _).symm.trans hyo)
    have HZO := Lib.hid hzo
    have HNO := Lib.hid hno
    have HZC := Lib.hid hz2
    have HXN := Lib.hid hx2
    clear hye hyo hzo hno hz2 hx2 hne hze h4 hb
    by_cases hc1 : C < 2
    · have d1 : decide ((1 : Int) < (C : Int)) = false := by simp; omega
      have d1n : decide (1 < C) = false := by simp; omega
      have HC1 := Lib.hid hc1
      clear hc1 hC
      by_cases h0 : L = 0
      · subst h0
        have hr6 : r6 = [] := List.length_eq_zero_iff.1 HL.out
        have HR6 := Lib.hid hr6
        clear hr6
        go_wp2_with (first
          | refine wpList_storeObjAt rfl _ _ rfl w2.heap.size rfl o _ rfl HE6.out.box ?_
          | (refine wpList_loadEv0 rfl _ rfl w2.heap.size rfl ⟨x, (C : Int) == 1, o⟩ (cells_all HE7.out.box) ?_; refine wpList_storeEv rfl _ _ rfl w.heap.size rfl ⟨x, (C : Int) == 1, o⟩ evZ rfl HE7.out.res ?_))
        refine bodyPost_ret (results_es ⟨x, (C : Int) == 1, o⟩ rfl rfl rfl (cells_all (Wset_same (heap_lt HE7.out.res)))) rfl ⟨?_, belowWs HE7.out.below (Nat.le_refl _)⟩
        have hy := ch_yes HNO.out HZO.out (by rw [← HZC.out]; exact HC1.out) HYO.out
        rw [HR6.out] at hy
        have ho : cellsO o = cellsO y := by have := HYE.out; simpa using this
        have he : cellsEv ⟨x, (C : Int) == 1, o⟩ = cellsEv ⟨(n : Int), z.toNat == 1, y⟩ := by
          have h1 : ((C : Int) == 1) = (z.toNat == 1) := by rw [← HZC.out]; exact one_bit HC1.out
          unfold cellsEv
          rw [h1, HXN.out]
          simp only [ho]
        rw [ch_all hy, he]; rfl
      · have d2 : ((L : Int) != 0) = true := by simp; omega
        have d2b : ((L : Int) == 0) = false := by simp; omega
        have HL0 := Lib.hid h0
        clear h0
        go_wp2_with (first
          | refine wpList_storeObjAt rfl _ _ rfl w2.heap.size rfl o _ rfl HE6.out.box ?_
          | refine wpList_storeEv rfl _ _ rfl w.heap.size rfl evZ evZ rfl HE7.out.res ?_)
        refine bodyPost_ret (results_es evZ rfl rfl rfl (cells_all (Wset_same (heap_lt HE7.out.res)))) rfl ⟨?_, belowWs HE7.out.below (Nat.le_refl _)⟩
        rw [ch_more (ch_yes HNO.out HZO.out (by rw [← HZC.out]; exact HC1.out) HYO.out) (fun e => HL0.out (by rw [← HL.out, e]; rfl))]; rfl
    · have d1 : decide ((1 : Int) < (C : Int)) = true := by simp; omega
      have d1n : decide (1 < C) = true := by simp; omega
      have HC1 := Lib.hid hc1
      clear hc1 hC
      go_wp2_with (first
        | refine wpList_storeObjAt rfl _ _ rfl w2.heap.size rfl o _ rfl HE6.out.box ?_
        | refine wpList_storeEv rfl _ _ rfl w.heap.size rfl evZ evZ rfl HE7.out.res ?_)
      refine bodyPost_ret (results_es evZ rfl rfl rfl (cells_all (Wset_same (heap_lt HE7.out.res)))) rfl ⟨?_, belowWs HE7.out.below (Nat.le_refl _)⟩
      rw [ch_c HNO.out HZO.out (by rw [← HZC.out]; exact HC1.out)]; rfl

end Go.Proofs.Ytgplolfkfhhddaa
