/- Layer 4 (codec): what the document reads as an object. -/
import Derived.Test.YtgplolfkfhhddaaQ5
import Derived.Test.YtgplolfkfhhddaaR5
import Derived.Test.YtgplolfkfhhddaaK1
namespace Go.Proofs.Ytgplolfkfhhddaa
open Go.RowKit
set_option linter.unusedVariables false
set_option linter.unusedSimpArgs false

theorem results_os {fn : Func} {tmps : Array Value} {w : World} {b : Nat} {t u : Tmp} {x : Value} (p : Obj) (hr : fn.results = #[.cell t 27, .tmp u]) (ht : tmps[t]?.getD undef = .pointer (some ⟨b, 0, none⟩)) (hu : tmps[u]?.getD undef = x) (h : ∀ k, w.cell? ⟨b, k, none⟩ = (cellsO p)[k]?) :
    (results fn tmps).run Try.prog w = .ok (.tuple #[.agg (cellsO p), x]) w := by
  have h0 := run_loadVar_obj p b w h
  simp [results, hr, ht, hu, asAddr, h0, Result.andThen]
theorem objD_lim (bs : Bs) : objD lim bs = objD 40 bs := objD_any bs lim_le

set_option maxRecDepth 100000 in
set_option maxHeartbeats 4000000 in
theorem qread_any (v : Value) (bs : Bs) (w : World) (h : SrcB w w.heap.size v bs) : Calls Try.prog 17 #[v] w fun e w' => ReadR w w' e (readD bs) := by
  obtain ⟨a, c, rfl⟩ := h.rd
  have HS := Lib.hid h
  clear h
  have hZ := objZ_cells
  simp only [noText] at hZ
  have HZ := Lib.hid hZ
  clear hZ
  obtain ⟨W, hW⟩ : ∃ W, W = (w.alloc (.cells (cellsO objZ) 27)).alloc (.cells #[.slice a bs.length c, .bool false] 68) := ⟨_, rfl⟩
  have hq : W.heap[w.heap.size]? = some (.cells (cellsO objZ) 27 (0, 0)) := by
    rw [hW]; exact (heap_alloc_lt (by simp)).trans heap_alloc_eq
  have hp : W.heap[w.heap.size + 1]? = some (.cells #[.slice a bs.length c, .bool false] 68 (0, 0)) := by
    rw [hW]
    have := heap_alloc_eq (w := w.alloc (.cells (cellsO objZ) 27)) (o := .cells #[.slice a bs.length c, .bool false] 68)
    simpa using this
  have hb : Below w.heap.size w W := by
    rw [hW]
    exact ((Below.refl w.heap.size w).alloc (Nat.le_refl _) _).alloc (by simp) _
  have HC := Lib.hid (show QCur W w.heap.size (w.heap.size + 1) bs false from ⟨_, hp, HS.out.start hb (Nat.le_refl _), by omega⟩)
  have HW := Lib.hid hW
  have HQ := Lib.hid hq
  have HB := Lib.hid hb
  clear hW hq hb hp
  go_enter Try.func17, Try.ntmps17
  go_wp2_with fail
  rw [← HZ.out, ← HW.out]
  refine (qobj_any _ _ _ bs false HC.out).mono ?_
  rintro e w2 ⟨_, r, b, rfl, ⟨o, rfl⟩, ⟨v2, hq2⟩, hk, hbb, hgg⟩
  have hq3 := (hk.block _ (heap_lt HQ.out) (by omega)).trans HQ.out
  have hb3 : Below w.heap.size w w2 := HB.out.trans (hk.belowP (by omega) HB.out.size)
  obtain ⟨a2, c2, rfl⟩ := hq2.src.rd
  have hz : (w2.alloc (.cells (cellsO objZ) 27)).heap[w2.heap.size]? = some (.cells (cellsO objZ) 27 (0, 0)) := heap_alloc_eq
  have hb5 := below_new w2 (.cells (cellsO objZ) 27) (.cells (cellsO o) 27 (0, 0))
  have hr5 := new_box w2 (.cells (cellsO objZ) 27) (cellsO o) 27
  have hq5 := (hb5.block _ (heap_lt hq3)).trans hq3
  have hp5 := (hb5.block _ (heap_lt hq2.cells)).trans hq2.cells
  have hB5 := hb3.trans (hb5.mono hb3.size)
  obtain ⟨L, hL⟩ : ∃ L, r.length = L := ⟨_, rfl⟩
  rw [hL] at hp5
  rw [HZ.out] at hz hr5 hp5 hB5
  conv at hq5 => lhs; rw [HZ.out]
  obtain ⟨c1, f1⟩ := cells_of_block hp5 1 (.bool b) rfl
  obtain ⟨c0, f0⟩ := cells_of_block hp5 0 (.slice a2 L c2) rfl
  have HZ5 := Lib.hid hz
  have HR5 := Lib.hid hr5
  have HQ5 := Lib.hid hq5
  have HB5 := Lib.hid hB5
  have HBB := Lib.hid hbb
  have HGG := Lib.hid hgg
  have HL := Lib.hid hL
  clear hz hb5 hr5 hq5 hp5 hB5 hbb hgg hq2 hk hq3 hb3 hL
  cases b with
  | true =>
    · skip
      go_wp2_with (first
        | refine wpList_storeObj rfl _ _ rfl w2.heap.size rfl o rfl _ HZ5.out rfl ?_
        | refine wpList_storeObj rfl _ _ rfl w.heap.size rfl objZ rfl _ HQ5.out (cellsO_size _) ?_)
      refine bodyPost_ret (results_os objZ rfl rfl rfl (cells_all (Wset_same (heap_lt HQ5.out)))) rfl ⟨?_, belowWs HB5.out (Nat.le_refl _)⟩
      rw [readD_none ((objD_lim bs).symm.trans ((HBB.out (by first | rfl | trivial)).resolve_left (by simp)))]; rfl
  | false =>
    obtain ⟨_, y, he, hd⟩ := HGG.out rfl
    have hd40 := (objD_lim bs).symm.trans hd
    by_cases h0 : L = 0
    · subst h0
      obtain rfl : r = [] := List.length_eq_zero_iff.1 HL.out
      have HD := Lib.hid hd40
      have HE := Lib.hid he
      clear hd hd40 he
      go_wp2_with (first
        | refine wpList_storeObj rfl _ _ rfl w2.heap.size rfl o rfl _ HZ5.out rfl ?_
        | (refine wpList_loadObj rfl _ rfl w2.heap.size rfl o (cells_all HR5.out) ?_; refine wpList_storeObj rfl _ _ rfl w.heap.size rfl o rfl _ HQ5.out (cellsO_size _) ?_))
      refine bodyPost_ret (results_os o rfl rfl rfl (cells_all (Wset_same (heap_lt HQ5.out)))) rfl ⟨?_, belowWs HB5.out (Nat.le_refl _)⟩
      rw [readD_all HD.out]
      have := HE.out
      simp only [Value.agg.injEq] at this
      simp only [Option.getD_some, Option.isSome_some, if_true, this]
      rfl
    · have d1 : ((L : Int) != 0) = true := by simp; omega
      have d1b : ((L : Int) == 0) = false := by simp; omega
      have HD := Lib.hid hd40
      have HN := Lib.hid h0
      clear hd hd40 he h0
      go_wp2_with (first
        | refine wpList_storeObj rfl _ _ rfl w2.heap.size rfl o rfl _ HZ5.out rfl ?_
        | refine wpList_storeObj rfl _ _ rfl w.heap.size rfl objZ rfl _ HQ5.out (cellsO_size _) ?_)
      refine bodyPost_ret (results_os objZ rfl rfl rfl (cells_all (Wset_same (heap_lt HQ5.out)))) rfl ⟨?_, belowWs HB5.out (Nat.le_refl _)⟩
      rw [readD_more' HD.out (fun e => HN.out (by rw [← HL.out, e]; rfl))]; rfl

end Go.Proofs.Ytgplolfkfhhddaa
