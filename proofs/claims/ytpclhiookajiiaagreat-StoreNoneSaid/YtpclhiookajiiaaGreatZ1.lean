/- Layer 6 (store): what a nil store answers. -/
import Derived.Test.YtpclhiookajiiaaGreatS7
namespace Go.Proofs.YtpclhiookajiiaaGreat
open Go.RowKit
set_option linter.unusedVariables false
set_option linter.unusedSimpArgs false


set_option maxRecDepth 100000 in
set_option maxHeartbeats 2000000 in
theorem zchange_nil (w : World) (o : Obj) : Calls Tryz.prog 49 #[.pointer none, .agg (cellsO o)] w fun e w' => e = .returned (.tuple #[.agg (cellsEv evZ), .int .i64 1]) ∧ Below w.heap.size w w' := by
  have hZ := evZ_cells
  simp only [noText] at hZ
  have HZ := Lib.hid hZ
  clear hZ
  obtain ⟨W0, hW0⟩ : ∃ W0, W0 = (w.alloc (.cells (cellsO o) 28)).alloc (.cells (cellsEv evZ) 58) := ⟨_, rfl⟩
  have hb0 : Below w.heap.size w W0 := hW0 ▸ ((Below.refl _ w).alloc (Nat.le_refl _) _).alloc (by simp) _
  have hrx : W0.heap[w.heap.size + 1]? = some (.cells (cellsEv evZ) 58 (0, 0)) := by
    have := World.alloc_heap_new (w.alloc (.cells (cellsO o) 28)) (.cells (cellsEv evZ) 58)
    rwa [World.size_alloc, ← hW0] at this
  have hW0' := hW0
  conv at hW0' => rhs; rw [HZ.out]
  have HW0 := Lib.hid hW0'
  have HRX := Lib.hid hrx
  have HB0 := Lib.hid hb0
  clear hW0 hW0' hrx hb0
  go_enter Tryz.func49, Tryz.ntmps49
  go_upto_region 2 with fail
  rw [← HW0.out]
  go_wp2_with (first
    | refine wpList_loadEv0 rfl _ rfl (w.heap.size + 1) rfl evZ (cells_all HRX.out) ?_
    | refine wpList_storeEv rfl _ _ rfl (w.heap.size + 1) rfl evZ evZ rfl HRX.out ?_
    | fail)
  exact bodyPost_ret (results_es evZ rfl rfl rfl (cells_all (Wset_same (heap_lt HRX.out)))) rfl ⟨rfl, belowWs HB0.out (Nat.le_succ _)⟩

set_option maxRecDepth 100000 in
set_option maxHeartbeats 2000000 in
theorem zput_nil (w : World) (o : Obj) : Calls Tryz.prog 17 #[.pointer none, .agg (cellsO o)] w fun e w' => e = .returned (.tuple #[.agg (cellsO objZ), .int .i64 1]) ∧ Below w.heap.size w w' := by
  have hZ := objZ_cells
  simp only [noText] at hZ
  have HZ := Lib.hid hZ
  have hZE := evZ_cells
  simp only [noText] at hZE
  have HZE := Lib.hid hZE
  clear hZ hZE
  obtain ⟨W0, hW0⟩ : ∃ W0, W0 = (w.alloc (.cells (cellsO o) 28)).alloc (.cells (cellsO objZ) 28) := ⟨_, rfl⟩
  have hb0 : Below w.heap.size w W0 := hW0 ▸ ((Below.refl _ w).alloc (Nat.le_refl _) _).alloc (by simp) _
  have hox : W0.heap[w.heap.size]? = some (.cells (cellsO o) 28 (0, 0)) := by rw [hW0]; exact (heap_alloc_lt (by simp)).trans heap_alloc_eq
  have hrx : W0.heap[w.heap.size + 1]? = some (.cells (cellsO objZ) 28 (0, 0)) := by
    have := World.alloc_heap_new (w.alloc (.cells (cellsO o) 28)) (.cells (cellsO objZ) 28)
    rwa [World.size_alloc, ← hW0] at this
  have hW0' := hW0
  conv at hW0' => rhs; rw [HZ.out]
  have HW0 := Lib.hid hW0'
  have HOX := Lib.hid hox
  have HRX := Lib.hid hrx
  have HB0 := Lib.hid hb0
  clear hW0 hW0' hox hrx hb0
  go_enter Tryz.func17, Tryz.ntmps17
  go_upto_region 1 with fail
  rw [← HW0.out]
  go_wp2_with (first
    | refine wpList_loadObj rfl _ rfl w.heap.size rfl o (cells_all HOX.out) ?_
    | fail)
  refine (zchange_nil W0 o).mono ?_
  rintro e w1 ⟨rfl, hb⟩
  have hq : (w1.alloc (.cells (cellsEv evZ) 58)).heap[w1.heap.size]? = some (.cells (cellsEv evZ) 58 (0, 0)) := heap_alloc_eq
  conv at hq => lhs; rw [HZE.out]
  have hbn := below_new w1 (.cells (cellsEv evZ) 58) (.cells (cellsEv evZ) 58 (0, 0))
  obtain ⟨W2, hW2⟩ : ∃ W, W = Wset (w1.alloc (.cells (cellsEv evZ) 58)) w1.heap.size (.cells (cellsEv evZ) 58 (0, 0)) := ⟨_, rfl⟩
  rw [← hW2] at hbn
  have hb1 := HB0.out.trans (hb.mono HB0.out.size)
  have HB2 := Lib.hid (hb1.trans (hbn.mono hb1.size))
  have HR2 := Lib.hid ((hbn.block _ (Nat.lt_of_lt_of_le (heap_lt HRX.out) hb.size)).trans ((hb.block _ (heap_lt HRX.out)).trans HRX.out))
  have HQ := Lib.hid hq
  have HW := Lib.hid hW2
  clear hbn hq hW2 hb hb1 HB0 HRX HOX
  go_wp2_with (first
    | (refine wpList_storeEv rfl _ _ rfl w1.heap.size rfl evZ evZ rfl HQ.out ?_; rw [← HZE.out, ← HW.out])
    | refine wpList_storeObj rfl _ _ rfl (w.heap.size + 1) rfl objZ rfl _ HR2.out rfl ?_
    | fail)
  exact bodyPost_ret (results_os objZ rfl rfl rfl (cells_all (Wset_same (heap_lt HR2.out)))) rfl ⟨rfl, belowWs HB2.out (Nat.le_succ _)⟩

set_option maxRecDepth 100000 in
set_option maxHeartbeats 2000000 in
theorem zget_nil (w : World) (k n : Value) : Calls Tryz.prog 16 #[.pointer none, .agg #[k, n]] w fun e w' => e = .returned (.tuple #[.agg (cellsO objZ), .bool false]) ∧ Below w.heap.size w w' := by
  have hZ := objZ_cells
  simp only [noText] at hZ
  have HZ := Lib.hid hZ
  clear hZ
  have hq : ((w.alloc (.cells #[k, n] 37)).alloc (.cells (cellsO objZ) 28)).heap[w.heap.size + 1]? = some (.cells (cellsO objZ) 28 (0, 0)) := by
    have := World.alloc_heap_new (w.alloc (.cells #[k, n] 37)) (.cells (cellsO objZ) 28)
    rwa [World.size_alloc] at this
  conv at hq => lhs; rw [HZ.out]
  have HQ := Lib.hid hq
  clear hq
  go_enter Tryz.func16, Tryz.ntmps16
  go_wp2_with (first
    | refine wpList_storeObj rfl _ _ rfl _ rfl objZ rfl _ HQ.out rfl ?_
    | fail)
  refine bodyPost_ret (results_os objZ rfl rfl rfl (cells_all (Wset_same (heap_lt HQ.out)))) rfl ⟨rfl, belowWs (((Below.refl _ _).alloc (Nat.le_refl _) _).alloc (by simp) _) (Nat.le_succ _)⟩

theorem zversion_nil (w : World) : Calls Tryz.prog 28 #[.pointer none] w fun e w' => e = .returned (.int .u64 0) ∧ w' = w := by
  go_enter Tryz.func28, Tryz.ntmps28
  go_wp2
  go_ret
  exact ⟨rfl, rfl⟩
theorem zsince_nil (w : World) (v : Int) : Calls Tryz.prog 26 #[.pointer none, .int .u64 v] w fun e w' => e = .returned (.slice none 0 0) ∧ w' = w := by
  go_enter Tryz.func26, Tryz.ntmps26
  go_wp2
  go_ret
  exact ⟨rfl, rfl⟩
theorem zlog_nil (w : World) : Calls Tryz.prog 30 #[.pointer none] w fun e w' => e = .returned (.pointer none) ∧ w' = w := by
  go_enter Tryz.func30, Tryz.ntmps30
  go_wp2
  go_ret
  exact ⟨rfl, rfl⟩
theorem zfork_nil (w : World) : Calls Tryz.prog 34 #[.pointer none] w fun e w' => e = .returned (.pointer none) ∧ w' = w := by
  go_enter Tryz.func34, Tryz.ntmps34
  go_wp2
  go_ret
  exact ⟨rfl, rfl⟩
theorem zsome_nil (w : World) (f : Value) : Calls Tryz.prog 80 #[.pointer none, f] w fun e w' => e = .returned (.slice none 0 0) ∧ w' = w := by
  go_enter Tryz.func80, Tryz.ntmps80
  go_wp2
  go_ret
  exact ⟨rfl, rfl⟩
theorem zlist_nil (w : World) (k : Int) : Calls Tryz.prog 37 #[.pointer none, .int .u8 k] w fun e w' => e = .returned (.slice none 0 0) ∧ Below w.heap.size w w' := by
  go_enter Tryz.func37, Tryz.ntmps37
  go_wp2_with (first | (go_at_call 80; refine (zsome_nil _ _).mono ?_; rintro e w1 ⟨rfl, rfl⟩) | fail)
  go_ret
  exact ⟨rfl, (Below.refl _ _).alloc (Nat.le_refl _) _⟩
theorem zall_nil (w : World) : Calls Tryz.prog 27 #[.pointer none] w fun e w' => e = .returned (.slice none 0 0) ∧ w' = w := by
  go_enter Tryz.func27, Tryz.ntmps27
  go_wp2_with (first | (go_at_call 80; refine (zsome_nil _ _).mono ?_; rintro e w1 ⟨rfl, rfl⟩) | fail)
  go_ret
  exact ⟨rfl, rfl⟩
set_option maxRecDepth 100000 in
theorem zcrash_nil (w : World) (o : Obj) (k t : Int) : Calls Tryz.prog 35 #[.pointer none, .agg (cellsO o), .int .i64 k, .int .i64 t] w fun e w' => e = .returned (.int .i64 1) ∧ Below w.heap.size w w' := by
  go_enter Tryz.func35, Tryz.ntmps35
  go_wp2
  go_ret
  exact ⟨rfl, (Below.refl _ _).alloc (Nat.le_refl _) _⟩

set_option maxRecDepth 100000 in
set_option maxHeartbeats 2000000 in
theorem zdelete_nil (w : World) (k : Int) (n : ByteArray) : Calls Tryz.prog 18 #[.pointer none, .agg #[.int .u8 k, .string n]] w fun e w' => e = .returned (.int .i64 1) ∧ Below w.heap.size w w' := by
  have hZ := objZ_cells
  simp only [noText] at hZ
  have HZ := Lib.hid hZ
  clear hZ
  have HB0 := Lib.hid ((Below.refl w.heap.size w).alloc (Nat.le_refl _) (.cells #[.int .u8 k, .string n] 37))
  go_enter Tryz.func18, Tryz.ntmps18
  go_wp2_with fail
  refine (zget_nil _ _ _).mono ?_
  rintro e w1 ⟨rfl, hb⟩
  have HB1 := Lib.hid (HB0.out.trans (hb.mono HB0.out.size))
  have hq : (w1.alloc (.cells (cellsO objZ) 28)).heap[w1.heap.size]? = some (.cells (cellsO objZ) 28 (0, 0)) := heap_alloc_eq
  conv at hq => lhs; rw [HZ.out]
  have hbn := below_new w1 (.cells (cellsO objZ) 28) (.cells (cellsO objZ) 28 (0, 0))
  obtain ⟨W2, hW2⟩ : ∃ W, W = Wset (w1.alloc (.cells (cellsO objZ) 28)) w1.heap.size (.cells (cellsO objZ) 28 (0, 0)) := ⟨_, rfl⟩
  rw [← hW2] at hbn
  have HB2 := Lib.hid (HB1.out.trans (hbn.mono HB1.out.size))
  have HQ := Lib.hid hq
  have HW := Lib.hid hW2
  clear hbn hq hW2 hb
  go_wp2_with (first
    | (refine wpList_storeObj rfl _ _ rfl w1.heap.size rfl objZ rfl _ HQ.out rfl ?_; rw [← HZ.out, ← HW.out])
    | fail)
  go_ret
  exact ⟨rfl, HB2.out⟩

set_option maxRecDepth 100000 in
set_option maxHeartbeats 2000000 in
theorem zremove_nil (w : World) (k : Int) (n : ByteArray) (v : Int) : Calls Tryz.prog 36 #[.pointer none, .agg #[.int .u8 k, .string n], .int .u64 v] w fun e w' => e = .returned (.int .i64 1) ∧ Below w.heap.size w w' := by
  have hZ := objZ_cells
  simp only [noText] at hZ
  have HZ := Lib.hid hZ
  clear hZ
  have HB0 := Lib.hid ((Below.refl w.heap.size w).alloc (Nat.le_refl _) (.cells #[.int .u8 k, .string n] 37))
  go_enter Tryz.func36, Tryz.ntmps36
  go_wp2_with fail
  refine (zget_nil _ _ _).mono ?_
  rintro e w1 ⟨rfl, hb⟩
  have HB1 := Lib.hid (HB0.out.trans (hb.mono HB0.out.size))
  have hq : (w1.alloc (.cells (cellsO objZ) 28)).heap[w1.heap.size]? = some (.cells (cellsO objZ) 28 (0, 0)) := heap_alloc_eq
  conv at hq => lhs; rw [HZ.out]
  have hbn := below_new w1 (.cells (cellsO objZ) 28) (.cells (cellsO objZ) 28 (0, 0))
  obtain ⟨W2, hW2⟩ : ∃ W, W = Wset (w1.alloc (.cells (cellsO objZ) 28)) w1.heap.size (.cells (cellsO objZ) 28 (0, 0)) := ⟨_, rfl⟩
  rw [← hW2] at hbn
  have HB2 := Lib.hid (HB1.out.trans (hbn.mono HB1.out.size))
  have HQ := Lib.hid hq
  have HW := Lib.hid hW2
  clear hbn hq hW2 hb
  go_wp2_with (first
    | (refine wpList_storeObj rfl _ _ rfl w1.heap.size rfl objZ rfl _ HQ.out rfl ?_; rw [← HZ.out, ← HW.out])
    | fail)
  go_ret
  exact ⟨rfl, HB2.out⟩

end Go.Proofs.YtpclhiookajiiaaGreat
