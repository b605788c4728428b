/- Layer 6 (store): what must be whatever is asked. -/
import Derived.Test.YtpclhiookajiiaaGreatZ1
namespace Go.Proofs.YtpclhiookajiiaaGreat
open Go.RowKit
set_option linter.unusedVariables false
set_option linter.unusedSimpArgs false


theorem SA.all_lo {w : World} {B : Nat} {L : SLoc} {cv lv : Value} {ms : List (GKey × Obj)} {cs : List Ev} {n most : Nat} (h : SA w B L cv lv ms cs n most) {i : Nat} (hi : L.all cv lv i) : B ≤ i ∧ i < w.heap.size := by
  rcases hi with hi | hi | hi
  · exact h.sm.mine_lo hi
  · rw [hi]; exact ⟨h.lg.base, h.lg.lt.1⟩
  · exact h.lg.lt.2 i hi
theorem SA.keep {w w' : World} {B : Nat} {L : SLoc} {cv lv : Value} {ms : List (GKey × Obj)} {cs : List Ev} {n most : Nat} (h : SA w B L cv lv ms cs n most) (hk : Keeps (L.all cv lv) w w') (hB : B ≤ w.heap.size) : Below B w w' :=
  ⟨hk.os, hk.tape, hk.output, hk.size, fun k hkk => hk.block k (by omega) (fun hx => by have := (h.all_lo hx).1; omega)⟩

def liveC : Obj := ⟨1, ⟨#[97]⟩, 0, 0, false, false, ⟨#[]⟩, 0, 0, 0, false, false, ⟨#[]⟩, ⟨#[]⟩, ⟨#[]⟩, ⟨#[]⟩, ⟨#[]⟩, 0, 0, 0⟩
theorem liveC_cells : cellsO liveC = #[.int .u8 1, .string ⟨#[97]⟩, .int .u64 0, .int .u64 0, .bool false, .bool false, .string ⟨#[]⟩, .int .i64 0, .int .i64 0, .int .u8 0, .bool false, .bool false, .string ⟨#[]⟩, .string ⟨#[]⟩, .string ⟨#[]⟩, .string ⟨#[]⟩, .string ⟨#[]⟩, .int .u8 0, .int .u64 0, .int .u64 0] := by simp [cellsO, liveC]
theorem liveC_typed : liveC.Typed := ⟨by decide, by decide, by decide, by decide, by decide, by decide, by decide⟩
theorem liveC_fits : liveC.Fits := ⟨by decide, by decide⟩
def liveP1 : Int × Obj × List (GKey × Obj) × List Ev × Nat := putM [] [] 0 8 liveC
def liveP2 : Int × Obj × List (GKey × Obj) × List Ev × Nat := putM liveP1.2.2.1 liveP1.2.2.2.1 liveP1.2.2.2.2 8 liveC
theorem liveP1_1 : liveP1.1 = 0 := by decide +kernel
theorem liveP1_v : liveP1.2.1.version = 1 := by decide +kernel
theorem liveP1_b : liveP1.2.1.born = 1 := by decide +kernel
theorem liveP1_l : liveP1.2.2.2.1.length = 1 := by decide +kernel
theorem liveP1_m : liveP1.2.2.1.length = 1 := by decide +kernel
theorem liveP2_1 : liveP2.1 = 6 := by decide +kernel
theorem liveP2_s : verS liveP2.2.2.2.1 = 1 := by decide +kernel

set_option maxRecDepth 100000 in
set_option maxHeartbeats 4000000 in
theorem zlive_any (w : World) : Calls Tryz.prog 15 #[] w fun e w' => e = .returned (.bool true) ∧ Below w.heap.size w w' := by
  have HC := Lib.hid liveC_cells
  have hZ := objZ_cells
  simp only [noText] at hZ
  have HZ := Lib.hid hZ
  clear hZ
  go_enter Tryz.func15, Tryz.ntmps15
  go_wp2_with fail
  refine (snew_any w 8 (by omega) (by omega)).mono ?_
  rintro e w1 ⟨L, cv, lv, rfl, hs, hb⟩
  have HS1 := Lib.hid hs
  have HB1 := Lib.hid hb
  clear hs hb
  go_wp2_with fail
  rw [← HC.out]
  refine (sput_any w1 _ L cv lv [] [] 0 8 HS1.out liveC liveC_typed liveC_fits (by simp) (by simp) HB1.out.size).mono ?_
  rw [show putM [] [] 0 8 liveC = liveP1 from rfl]
  rintro e w2 ⟨rfl, cv2, lv2, hs2, hk2⟩
  have hb2 := HS1.out.keep hk2 HB1.out.size
  obtain ⟨W2, hW2⟩ : ∃ W, W = Wset (w2.alloc (.cells (cellsO objZ) 28)) w2.heap.size (.cells (cellsO liveP1.2.1) 28 (0, 0)) := ⟨_, rfl⟩
  have hbn := below_new w2 (.cells (cellsO objZ) 28) (.cells (cellsO liveP1.2.1) 28 (0, 0))
  have hnb := new_box w2 (.cells (cellsO objZ) 28) (cellsO liveP1.2.1) 28
  rw [← hW2] at hbn hnb
  have hq : (w2.alloc (.cells (cellsO objZ) 28)).heap[w2.heap.size]? = some (.cells (cellsO objZ) 28 (0, 0)) := heap_alloc_eq
  conv at hq => lhs; rw [HZ.out]
  have hB2 : Below w.heap.size w w2 := HB1.out.trans hb2
  have HB2 := Lib.hid (hB2.trans (hbn.mono hB2.size))
  have HS2 := Lib.hid (hs2.below hbn)
  have HLO := Lib.hid (fun i (hi : L.all cv2 lv2 i) => (hs2.all_lo hi).2)
  have HK2 := Lib.hid hnb
  have HQ := Lib.hid hq
  have HW := Lib.hid hW2
  have HP := Lib.hid liveP1_1
  rw [liveP1_1]
  clear hbn hnb hq hW2 hb2 hs2 hk2 hB2
  go_wp2_with (first
    | (refine wpList_storeObj rfl _ _ rfl w2.heap.size rfl liveP1.2.1 rfl _ HQ.out rfl ?_; rw [← HZ.out, ← HW.out])
    | fail)
  rw [← HC.out]
  have hwl := heap_lt HK2.out
  refine (sput_any W2 _ L cv2 lv2 _ _ _ 8 HS2.out liveC liveC_typed liveC_fits (by rw [liveP1_l]; omega) (by rw [liveP1_m]; omega) HB2.out.size).mono ?_
  rw [show putM liveP1.2.2.1 liveP1.2.2.2.1 liveP1.2.2.2.2 8 liveC = liveP2 from rfl]
  rintro e w3 ⟨rfl, cv3, lv3, hs3, hk3⟩
  have hb3 := HS2.out.keep hk3 HB2.out.size
  have hbox3 := (hk3.block _ hwl (fun hx => absurd (HLO.out _ hx) (Nat.lt_irrefl _))).trans HK2.out
  obtain ⟨W4, hW4⟩ : ∃ W, W = Wset (w3.alloc (.cells (cellsO objZ) 28)) w3.heap.size (.cells (cellsO liveP2.2.1) 28 (0, 0)) := ⟨_, rfl⟩
  have hbn := below_new w3 (.cells (cellsO objZ) 28) (.cells (cellsO liveP2.2.1) 28 (0, 0))
  rw [← hW4] at hbn
  have hq : (w3.alloc (.cells (cellsO objZ) 28)).heap[w3.heap.size]? = some (.cells (cellsO objZ) 28 (0, 0)) := heap_alloc_eq
  conv at hq => lhs; rw [HZ.out]
  have hB3 : Below w.heap.size w w3 := HB2.out.trans hb3
  have HB4 := Lib.hid (hB3.trans (hbn.mono hB3.size))
  have HS4 := Lib.hid (hs3.below hbn)
  have hbox4 := (hbn.block _ (heap_lt hbox3)).trans hbox3
  obtain ⟨v2, g2⟩ := cells_of_block hbox4 2 (.int .u64 1) (by rw [← liveP1_v]; rfl)
  obtain ⟨v3, g3⟩ := cells_of_block hbox4 3 (.int .u64 1) (by rw [← liveP1_b]; rfl)
  have HQ4 := Lib.hid hq
  have HW4 := Lib.hid hW4
  have HV := Lib.hid liveP2_s
  rw [liveP2_1]
  clear hbn hq hW4 hb3 hs3 hk3 hB3 hbox3 hbox4 hwl HB2 HS2 HK2
  go_wp2_with (first
    | (refine wpList_storeObj rfl _ _ rfl w3.heap.size rfl liveP2.2.1 rfl _ HQ4.out rfl ?_; rw [← HZ.out, ← HW4.out])
    | (go_at_call 28; refine (sversion_any W4 _ L cv3 _ _ HS4.out.sm).mono ?_; rintro e w5 ⟨rfl, hb⟩; rw [HV.out]; have HB5 := Lib.hid (HB4.out.trans (hb.mono HB4.out.size)); clear hb)
    | fail)
  go_ret
  exact ⟨rfl, HB5.out⟩

end Go.Proofs.YtpclhiookajiiaaGreat
