/- Layer 1 (quant): the walk of QuantOrder. -/
import Derived.Test.YtcokgpjmhacmeaaDoorX3
import Derived.Test.YtcokgpjmhacmeaaDoorReg
namespace Go.Proofs.YtcokgpjmhacmeaaDoor
open Go.RowKit
set_option linter.unusedVariables false
set_option linter.unusedSimpArgs false
open Go.Shelf

theorem up_two {p q u : Int} (hpq : p ≤ q) (h1 : (upF p u).2 = 0) (h2 : (upF q u).2 = 0) : (upF p u).1 ≤ (upF q u).1 := by
  obtain ⟨a1, a2, a3, a4, a5, a6⟩ := upF_ok h1
  obtain ⟨b1, b2, b3, b4, b5, b6⟩ := upF_ok h2
  rw [a5, b5]
  exact up_mono a1 hpq a3
theorem up_cases {p q u : Int} (hpq : p ≤ q) : ∃ x e y f, pRes (upF p u) = .tuple #[.int .i64 x, .int .i64 e] ∧ pRes (upF q u) = .tuple #[.int .i64 y, .int .i64 f] ∧ ((e = 0 ∧ f = 0 ∧ x ≤ y) ∨ (e = 0 ∧ f ≠ 0) ∨ e ≠ 0) := by
  refine ⟨_, _, _, _, rfl, rfl, ?_⟩
  by_cases h1 : (upF p u).2 = 0
  · by_cases h2 : (upF q u).2 = 0
    · exact .inl ⟨h1, h2, up_two hpq h1 h2⟩
    · exact .inr (.inl ⟨h1, h2⟩)
  · exact .inr (.inr h1)

set_option maxRecDepth 100000 in
set_option maxHeartbeats 16000000 in
theorem order_walk (a b u r0 r1 : Int) (w : World) (hT : Tabs w) : Calls Tryd.prog 8 #[.agg #[.int .i64 a, .int .i64 b], .int .i64 u, .agg #[.int .i64 r0, .int .i64 r1]] w fun e w' => e = .returned (.bool true) ∧ Below w.heap.size w w' := by
  obtain ⟨w0, hw0⟩ : ∃ w0, w0 = (w.alloc (.cells #[.int .i64 a, .int .i64 b] 37)).alloc (.cells #[.int .i64 r0, .int .i64 r1] 37) := ⟨_, rfl⟩
  have hb0 : Below w.heap.size w w0 := hw0 ▸ ((Below.refl _ w).alloc (Nat.le_refl _) _).alloc (by simp) _
  have hsz : w0.heap.size = w.heap.size + 2 := by rw [hw0]; simp
  have hc1 : w0.heap[w.heap.size]? = some (.cells #[.int .i64 a, .int .i64 b] 37 (0, 0)) := by
    rw [hw0]; exact (Below.heap_alloc _ _ _ (by simp)).trans (World.alloc_heap_new w _)
  have hc2 : w0.heap[w.heap.size + 1]? = some (.cells #[.int .i64 r0, .int .i64 r1] 37 (0, 0)) := by
    rw [hw0]; have := World.alloc_heap_new (w.alloc (.cells #[.int .i64 a, .int .i64 b] 37)) (.cells #[.int .i64 r0, .int .i64 r1] 37); rwa [World.size_alloc] at this
  have HA := Lib.hid (show w0.cell? ⟨w.heap.size, 0, none⟩ = some (.int .i64 a) by simp only [World.cell?, hc1]; rfl)
  have HB := Lib.hid (show w0.cell? ⟨w.heap.size, 1, none⟩ = some (.int .i64 b) by simp only [World.cell?, hc1]; rfl)
  have k0 : w0.cell? ⟨w.heap.size + 1, 0, none⟩ = some (.int .i64 r0) := by simp only [World.cell?, hc2]; rfl
  have k1 : w0.cell? ⟨w.heap.size + 1, 1, none⟩ = some (.int .i64 r1) := by simp only [World.cell?, hc2]; rfl
  have HT := Lib.hid (hT.below hb0)
  have HBL := Lib.hid hb0
  have HSZ := Lib.hid hsz
  clear hc1 hc2 hb0 hsz hT
  go_enter Tryd.func8, Tryd.ntmps8
  go_wp2
  rw [← hw0]
  clear hw0
  refine wp_region_N (fun w' => (w'.cell? ⟨w.heap.size, 0, none⟩ = some (.int .i64 a)) ∧ (w'.cell? ⟨w.heap.size, 1, none⟩ = some (.int .i64 b)))
    [(true, 0), (true, 1), (true, 2), (true, 3), (true, 4), (true, 5)] (by kernel_rfl) (by kernel_rfl) rfl (by kernel_rfl) ?_ ?_
  · exact ⟨by first | exact HA.out | exact HB.out, by first | exact HA.out | exact HB.out⟩
  simp only [List.filterMap_cons, List.filterMap_nil, List.getElem?_cons_succ, List.getElem?_cons_zero, Option.map_some]
  apply wpSeq_takeK _ (by first | rfl | (simp [Region.wanted, yielded]; done))
  · intro w' hS
    obtain ⟨s0, s1⟩ := hS
    skip
    go_simp
    try rfl
  intro K hK
  go_simp
  refine hK _ ?_
  clear hK K
  apply wpSeq_takeK _ (by first | rfl | (simp [Region.wanted, yielded]; done))
  · intro w' hS
    obtain ⟨s0, s1⟩ := hS
    skip
    go_simp
    try rfl
  intro K hK
  go_simp
  refine hK _ ?_
  clear hK K
  apply wpSeq_takeK _ (by first | rfl | (simp [Region.wanted, yielded]; done))
  · intro w' hS
    obtain ⟨s0, s1⟩ := hS
    skip
    go_simp
    try rfl
  intro K hK
  go_simp
  refine hK _ ?_
  clear hK K
  apply wpSeq_takeK _ (by first | rfl | (simp [Region.wanted, yielded]; done))
  · intro w' hS
    obtain ⟨s0, s1⟩ := hS
    skip
    go_simp
    try rfl
  intro K hK
  go_simp
  refine hK _ ?_
  clear hK K
  apply wpSeq_takeK _ (by first | rfl | (simp [Region.wanted, yielded]; done))
  · intro w' hS
    obtain ⟨s0, s1⟩ := hS
    skip
    go_simp
    try rfl
  intro K hK
  go_simp
  refine hK _ ?_
  clear hK K
  apply wpSeq_takeK _ (by first | rfl | (simp [Region.wanted, yielded]; done))
  · intro w' hS
    obtain ⟨s0, s1⟩ := hS
    skip
    go_simp
    try rfl
  intro K hK
  go_simp
  refine hK _ ?_
  clear hK K
  refine wpSeq_end ?_
  have HT := Lib.hid (HT.out.below (Below.refl _ w0).drew)
  have HBL := Lib.hid HBL.out.drew
  have k0 : w0.drew.cell? ⟨w.heap.size + 1, 0, none⟩ = some (.int .i64 r0) := k0
  have k1 : w0.drew.cell? ⟨w.heap.size + 1, 1, none⟩ = some (.int .i64 r1) := k1
  clear HA HB HSZ
  generalize w0.drew = w1 at *
  by_cases hab : b < a
  · have hpq : b ≤ a := by omega
    obtain ⟨x, e, y, f, hu1, hu2, hxy⟩ := up_cases (u := u) hpq
    have HU1 := Lib.hid hu1
    have HU2 := Lib.hid hu2
    clear hu1 hu2
    rcases (show (b < 0 ∧ fitF b r0 = false ∧ fitF b r1 = false) ∨ (0 ≤ b ∧ b ≤ r0 ∧ fitF b r0 = true ∧ (r0 ≤ r1 → fitF b r1 = true)) ∨ (0 ≤ b ∧ fitF b r0 = false ∧ fitF a r0 = false) by
      by_cases hp : b < 0
      · left; refine ⟨hp, ?_, ?_⟩ <;> (simp [fitF]; omega)
      · by_cases hr : b ≤ r0
        · right; left; refine ⟨by omega, hr, by simp [fitF, hr]; omega, fun h => by simp [fitF]; omega⟩
        · right; right; refine ⟨by omega, ?_, ?_⟩ <;> (simp [fitF]; omega)) with ⟨hp, g1, g2⟩ | ⟨hp, hp2, g1, g2⟩ | ⟨hp, g1, g3⟩
    · have F1 := Lib.hid g1
      have F2 := Lib.hid g2
      clear g1 g2
      by_cases hr : r0 ≤ r1
      all_goals
        cases g3 : fitF a r0
        all_goals
          have F3 := Lib.hid g3
          clear g3
          rcases hxy with ⟨rfl, rfl, hxy⟩ | ⟨rfl, hf⟩ | hf
          · go_wp2_with (first | (go_at_call 17; have hp := HU1.out; refine (up_any b u _).mono ?_; rw [hp]; clear HU1 hp; rintro e w3 ⟨rfl, rfl⟩) | (go_at_call 17; have hp := HU2.out; refine (up_any a u _).mono ?_; rw [hp]; clear HU2 hp; rintro e w3 ⟨rfl, rfl⟩) | (go_at_call 18; refine (fits_any _ _ _).mono ?_; (first | rw [F1.out] | rw [F2.out] | rw [F3.out]); rintro e w4 ⟨rfl, rfl⟩) | (go_at_call 15; refine (live_any _ HT.out).mono ?_; rintro e w5 ⟨rfl, hb⟩; have k0 := (hb.cell (World.block_lt_of_cell? _ _ k0)).trans k0; have k1 := (hb.cell (World.block_lt_of_cell? _ _ k1)).trans k1; have HBL := Lib.hid (HBL.out.trans (hb.mono HBL.out.size)); clear hb))
            go_ret
            exact ⟨rfl, HBL.out⟩
          · have hf' : (f == 0) = false := beq_false_of_ne hf
            go_wp2_with (first | (go_at_call 17; have hp := HU1.out; refine (up_any b u _).mono ?_; rw [hp]; clear HU1 hp; rintro e w3 ⟨rfl, rfl⟩) | (go_at_call 17; have hp := HU2.out; refine (up_any a u _).mono ?_; rw [hp]; clear HU2 hp; rintro e w3 ⟨rfl, rfl⟩) | (go_at_call 18; refine (fits_any _ _ _).mono ?_; (first | rw [F1.out] | rw [F2.out] | rw [F3.out]); rintro e w4 ⟨rfl, rfl⟩) | (go_at_call 15; refine (live_any _ HT.out).mono ?_; rintro e w5 ⟨rfl, hb⟩; have k0 := (hb.cell (World.block_lt_of_cell? _ _ k0)).trans k0; have k1 := (hb.cell (World.block_lt_of_cell? _ _ k1)).trans k1; have HBL := Lib.hid (HBL.out.trans (hb.mono HBL.out.size)); clear hb))
            go_ret
            exact ⟨rfl, HBL.out⟩
          · have hf' : (e == 0) = false := beq_false_of_ne hf
            go_wp2_with (first | (go_at_call 17; have hp := HU1.out; refine (up_any b u _).mono ?_; rw [hp]; clear HU1 hp; rintro e w3 ⟨rfl, rfl⟩) | (go_at_call 17; have hp := HU2.out; refine (up_any a u _).mono ?_; rw [hp]; clear HU2 hp; rintro e w3 ⟨rfl, rfl⟩) | (go_at_call 18; refine (fits_any _ _ _).mono ?_; (first | rw [F1.out] | rw [F2.out] | rw [F3.out]); rintro e w4 ⟨rfl, rfl⟩) | (go_at_call 15; refine (live_any _ HT.out).mono ?_; rintro e w5 ⟨rfl, hb⟩; have k0 := (hb.cell (World.block_lt_of_cell? _ _ k0)).trans k0; have k1 := (hb.cell (World.block_lt_of_cell? _ _ k1)).trans k1; have HBL := Lib.hid (HBL.out.trans (hb.mono HBL.out.size)); clear hb))
            go_ret
            exact ⟨rfl, HBL.out⟩
    · have F1 := Lib.hid g1
      clear g1
      by_cases hr : r0 ≤ r1
      · have F2 := Lib.hid (g2 hr)
        clear g2
        cases g3 : fitF a r0
        all_goals
          have F3 := Lib.hid g3
          clear g3
          rcases hxy with ⟨rfl, rfl, hxy⟩ | ⟨rfl, hf⟩ | hf
          · go_wp2_with (first | (go_at_call 17; have hp := HU1.out; refine (up_any b u _).mono ?_; rw [hp]; clear HU1 hp; rintro e w3 ⟨rfl, rfl⟩) | (go_at_call 17; have hp := HU2.out; refine (up_any a u _).mono ?_; rw [hp]; clear HU2 hp; rintro e w3 ⟨rfl, rfl⟩) | (go_at_call 18; refine (fits_any _ _ _).mono ?_; (first | rw [F1.out] | rw [F2.out] | rw [F3.out]); rintro e w4 ⟨rfl, rfl⟩) | (go_at_call 15; refine (live_any _ HT.out).mono ?_; rintro e w5 ⟨rfl, hb⟩; have k0 := (hb.cell (World.block_lt_of_cell? _ _ k0)).trans k0; have k1 := (hb.cell (World.block_lt_of_cell? _ _ k1)).trans k1; have HBL := Lib.hid (HBL.out.trans (hb.mono HBL.out.size)); clear hb))
            go_ret
            exact ⟨rfl, HBL.out⟩
          · have hf' : (f == 0) = false := beq_false_of_ne hf
            go_wp2_with (first | (go_at_call 17; have hp := HU1.out; refine (up_any b u _).mono ?_; rw [hp]; clear HU1 hp; rintro e w3 ⟨rfl, rfl⟩) | (go_at_call 17; have hp := HU2.out; refine (up_any a u _).mono ?_; rw [hp]; clear HU2 hp; rintro e w3 ⟨rfl, rfl⟩) | (go_at_call 18; refine (fits_any _ _ _).mono ?_; (first | rw [F1.out] | rw [F2.out] | rw [F3.out]); rintro e w4 ⟨rfl, rfl⟩) | (go_at_call 15; refine (live_any _ HT.out).mono ?_; rintro e w5 ⟨rfl, hb⟩; have k0 := (hb.cell (World.block_lt_of_cell? _ _ k0)).trans k0; have k1 := (hb.cell (World.block_lt_of_cell? _ _ k1)).trans k1; have HBL := Lib.hid (HBL.out.trans (hb.mono HBL.out.size)); clear hb))
            go_ret
            exact ⟨rfl, HBL.out⟩
          · have hf' : (e == 0) = false := beq_false_of_ne hf
            go_wp2_with (first | (go_at_call 17; have hp := HU1.out; refine (up_any b u _).mono ?_; rw [hp]; clear HU1 hp; rintro e w3 ⟨rfl, rfl⟩) | (go_at_call 17; have hp := HU2.out; refine (up_any a u _).mono ?_; rw [hp]; clear HU2 hp; rintro e w3 ⟨rfl, rfl⟩) | (go_at_call 18; refine (fits_any _ _ _).mono ?_; (first | rw [F1.out] | rw [F2.out] | rw [F3.out]); rintro e w4 ⟨rfl, rfl⟩) | (go_at_call 15; refine (live_any _ HT.out).mono ?_; rintro e w5 ⟨rfl, hb⟩; have k0 := (hb.cell (World.block_lt_of_cell? _ _ k0)).trans k0; have k1 := (hb.cell (World.block_lt_of_cell? _ _ k1)).trans k1; have HBL := Lib.hid (HBL.out.trans (hb.mono HBL.out.size)); clear hb))
            go_ret
            exact ⟨rfl, HBL.out⟩
      · have F2 := F1
        clear g2
        cases g3 : fitF a r0
        all_goals
          have F3 := Lib.hid g3
          clear g3
          rcases hxy with ⟨rfl, rfl, hxy⟩ | ⟨rfl, hf⟩ | hf
          · go_wp2_with (first | (go_at_call 17; have hp := HU1.out; refine (up_any b u _).mono ?_; rw [hp]; clear HU1 hp; rintro e w3 ⟨rfl, rfl⟩) | (go_at_call 17; have hp := HU2.out; refine (up_any a u _).mono ?_; rw [hp]; clear HU2 hp; rintro e w3 ⟨rfl, rfl⟩) | (go_at_call 18; refine (fits_any _ _ _).mono ?_; (first | rw [F1.out] | rw [F2.out] | rw [F3.out]); rintro e w4 ⟨rfl, rfl⟩) | (go_at_call 15; refine (live_any _ HT.out).mono ?_; rintro e w5 ⟨rfl, hb⟩; have k0 := (hb.cell (World.block_lt_of_cell? _ _ k0)).trans k0; have k1 := (hb.cell (World.block_lt_of_cell? _ _ k1)).trans k1; have HBL := Lib.hid (HBL.out.trans (hb.mono HBL.out.size)); clear hb))
            go_ret
            exact ⟨rfl, HBL.out⟩
          · have hf' : (f == 0) = false := beq_false_of_ne hf
            go_wp2_with (first | (go_at_call 17; have hp := HU1.out; refine (up_any b u _).mono ?_; rw [hp]; clear HU1 hp; rintro e w3 ⟨rfl, rfl⟩) | (go_at_call 17; have hp := HU2.out; refine (up_any a u _).mono ?_; rw [hp]; clear HU2 hp; rintro e w3 ⟨rfl, rfl⟩) | (go_at_call 18; refine (fits_any _ _ _).mono ?_; (first | rw [F1.out] | rw [F2.out] | rw [F3.out]); rintro e w4 ⟨rfl, rfl⟩) | (go_at_call 15; refine (live_any _ HT.out).mono ?_; rintro e w5 ⟨rfl, hb⟩; have k0 := (hb.cell (World.block_lt_of_cell? _ _ k0)).trans k0; have k1 := (hb.cell (World.block_lt_of_cell? _ _ k1)).trans k1; have HBL := Lib.hid (HBL.out.trans (hb.mono HBL.out.size)); clear hb))
            go_ret
            exact ⟨rfl, HBL.out⟩
          · have hf' : (e == 0) = false := beq_false_of_ne hf
            go_wp2_with (first | (go_at_call 17; have hp := HU1.out; refine (up_any b u _).mono ?_; rw [hp]; clear HU1 hp; rintro e w3 ⟨rfl, rfl⟩) | (go_at_call 17; have hp := HU2.out; refine (up_any a u _).mono ?_; rw [hp]; clear HU2 hp; rintro e w3 ⟨rfl, rfl⟩) | (go_at_call 18; refine (fits_any _ _ _).mono ?_; (first | rw [F1.out] | rw [F2.out] | rw [F3.out]); rintro e w4 ⟨rfl, rfl⟩) | (go_at_call 15; refine (live_any _ HT.out).mono ?_; rintro e w5 ⟨rfl, hb⟩; have k0 := (hb.cell (World.block_lt_of_cell? _ _ k0)).trans k0; have k1 := (hb.cell (World.block_lt_of_cell? _ _ k1)).trans k1; have HBL := Lib.hid (HBL.out.trans (hb.mono HBL.out.size)); clear hb))
            go_ret
            exact ⟨rfl, HBL.out⟩
    · have F1 := Lib.hid g1
      have F3 := Lib.hid g3
      have F2 := F1
      clear g1 g3
      by_cases hr : r0 ≤ r1
      all_goals
        rcases hxy with ⟨rfl, rfl, hxy⟩ | ⟨rfl, hf⟩ | hf
        · go_wp2_with (first | (go_at_call 17; have hp := HU1.out; refine (up_any b u _).mono ?_; rw [hp]; clear HU1 hp; rintro e w3 ⟨rfl, rfl⟩) | (go_at_call 17; have hp := HU2.out; refine (up_any a u _).mono ?_; rw [hp]; clear HU2 hp; rintro e w3 ⟨rfl, rfl⟩) | (go_at_call 18; refine (fits_any _ _ _).mono ?_; (first | rw [F1.out] | rw [F2.out] | rw [F3.out]); rintro e w4 ⟨rfl, rfl⟩) | (go_at_call 15; refine (live_any _ HT.out).mono ?_; rintro e w5 ⟨rfl, hb⟩; have k0 := (hb.cell (World.block_lt_of_cell? _ _ k0)).trans k0; have k1 := (hb.cell (World.block_lt_of_cell? _ _ k1)).trans k1; have HBL := Lib.hid (HBL.out.trans (hb.mono HBL.out.size)); clear hb))
          go_ret
          exact ⟨rfl, HBL.out⟩
        · have hf' : (f == 0) = false := beq_false_of_ne hf
          go_wp2_with (first | (go_at_call 17; have hp := HU1.out; refine (up_any b u _).mono ?_; rw [hp]; clear HU1 hp; rintro e w3 ⟨rfl, rfl⟩) | (go_at_call 17; have hp := HU2.out; refine (up_any a u _).mono ?_; rw [hp]; clear HU2 hp; rintro e w3 ⟨rfl, rfl⟩) | (go_at_call 18; refine (fits_any _ _ _).mono ?_; (first | rw [F1.out] | rw [F2.out] | rw [F3.out]); rintro e w4 ⟨rfl, rfl⟩) | (go_at_call 15; refine (live_any _ HT.out).mono ?_; rintro e w5 ⟨rfl, hb⟩; have k0 := (hb.cell (World.block_lt_of_cell? _ _ k0)).trans k0; have k1 := (hb.cell (World.block_lt_of_cell? _ _ k1)).trans k1; have HBL := Lib.hid (HBL.out.trans (hb.mono HBL.out.size)); clear hb))
          go_ret
          exact ⟨rfl, HBL.out⟩
        · have hf' : (e == 0) = false := beq_false_of_ne hf
          go_wp2_with (first | (go_at_call 17; have hp := HU1.out; refine (up_any b u _).mono ?_; rw [hp]; clear HU1 hp; rintro e w3 ⟨rfl, rfl⟩) | (go_at_call 17; have hp := HU2.out; refine (up_any a u _).mono ?_; rw [hp]; clear HU2 hp; rintro e w3 ⟨rfl, rfl⟩) | (go_at_call 18; refine (fits_any _ _ _).mono ?_; (first | rw [F1.out] | rw [F2.out] | rw [F3.out]); rintro e w4 ⟨rfl, rfl⟩) | (go_at_call 15; refine (live_any _ HT.out).mono ?_; rintro e w5 ⟨rfl, hb⟩; have k0 := (hb.cell (World.block_lt_of_cell? _ _ k0)).trans k0; have k1 := (hb.cell (World.block_lt_of_cell? _ _ k1)).trans k1; have HBL := Lib.hid (HBL.out.trans (hb.mono HBL.out.size)); clear hb))
          go_ret
          exact ⟨rfl, HBL.out⟩
  · have hpq : a ≤ b := by omega
    obtain ⟨x, e, y, f, hu1, hu2, hxy⟩ := up_cases (u := u) hpq
    have HU1 := Lib.hid hu1
    have HU2 := Lib.hid hu2
    clear hu1 hu2
    rcases (show (a < 0 ∧ fitF a r0 = false ∧ fitF a r1 = false) ∨ (0 ≤ a ∧ a ≤ r0 ∧ fitF a r0 = true ∧ (r0 ≤ r1 → fitF a r1 = true)) ∨ (0 ≤ a ∧ fitF a r0 = false ∧ fitF b r0 = false) by
      by_cases hp : a < 0
      · left; refine ⟨hp, ?_, ?_⟩ <;> (simp [fitF]; omega)
      · by_cases hr : a ≤ r0
        · right; left; refine ⟨by omega, hr, by simp [fitF, hr]; omega, fun h => by simp [fitF]; omega⟩
        · right; right; refine ⟨by omega, ?_, ?_⟩ <;> (simp [fitF]; omega)) with ⟨hp, g1, g2⟩ | ⟨hp, hp2, g1, g2⟩ | ⟨hp, g1, g3⟩
    · have F1 := Lib.hid g1
      have F2 := Lib.hid g2
      clear g1 g2
      by_cases hr : r0 ≤ r1
      all_goals
        cases g3 : fitF b r0
        all_goals
          have F3 := Lib.hid g3
          clear g3
          rcases hxy with ⟨rfl, rfl, hxy⟩ | ⟨rfl, hf⟩ | hf
          · go_wp2_with (first | (go_at_call 17; have hp := HU1.out; refine (up_any a u _).mono ?_; rw [hp]; clear HU1 hp; rintro e w3 ⟨rfl, rfl⟩) | (go_at_call 17; have hp := HU2.out; refine (up_any b u _).mono ?_; rw [hp]; clear HU2 hp; rintro e w3 ⟨rfl, rfl⟩) | (go_at_call 18; refine (fits_any _ _ _).mono ?_; (first | rw [F1.out] | rw [F2.out] | rw [F3.out]); rintro e w4 ⟨rfl, rfl⟩) | (go_at_call 15; refine (live_any _ HT.out).mono ?_; rintro e w5 ⟨rfl, hb⟩; have k0 := (hb.cell (World.block_lt_of_cell? _ _ k0)).trans k0; have k1 := (hb.cell (World.block_lt_of_cell? _ _ k1)).trans k1; have HBL := Lib.hid (HBL.out.trans (hb.mono HBL.out.size)); clear hb))
            go_ret
            exact ⟨rfl, HBL.out⟩
          · have hf' : (f == 0) = false := beq_false_of_ne hf
            go_wp2_with (first | (go_at_call 17; have hp := HU1.out; refine (up_any a u _).mono ?_; rw [hp]; clear HU1 hp; rintro e w3 ⟨rfl, rfl⟩) | (go_at_call 17; have hp := HU2.out; refine (up_any b u _).mono ?_; rw [hp]; clear HU2 hp; rintro e w3 ⟨rfl, rfl⟩) | (go_at_call 18; refine (fits_any _ _ _).mono ?_; (first | rw [F1.out] | rw [F2.out] | rw [F3.out]); rintro e w4 ⟨rfl, rfl⟩) | (go_at_call 15; refine (live_any _ HT.out).mono ?_; rintro e w5 ⟨rfl, hb⟩; have k0 := (hb.cell (World.block_lt_of_cell? _ _ k0)).trans k0; have k1 := (hb.cell (World.block_lt_of_cell? _ _ k1)).trans k1; have HBL := Lib.hid (HBL.out.trans (hb.mono HBL.out.size)); clear hb))
            go_ret
            exact ⟨rfl, HBL.out⟩
          · have hf' : (e == 0) = false := beq_false_of_ne hf
            go_wp2_with (first | (go_at_call 17; have hp := HU1.out; refine (up_any a u _).mono ?_; rw [hp]; clear HU1 hp; rintro e w3 ⟨rfl, rfl⟩) | (go_at_call 17; have hp := HU2.out; refine (up_any b u _).mono ?_; rw [hp]; clear HU2 hp; rintro e w3 ⟨rfl, rfl⟩) | (go_at_call 18; refine (fits_any _ _ _).mono ?_; (first | rw [F1.out] | rw [F2.out] | rw [F3.out]); rintro e w4 ⟨rfl, rfl⟩) | (go_at_call 15; refine (live_any _ HT.out).mono ?_; rintro e w5 ⟨rfl, hb⟩; have k0 := (hb.cell (World.block_lt_of_cell? _ _ k0)).trans k0; have k1 := (hb.cell (World.block_lt_of_cell? _ _ k1)).trans k1; have HBL := Lib.hid (HBL.out.trans (hb.mono HBL.out.size)); clear hb))
            go_ret
            exact ⟨rfl, HBL.out⟩
    · have F1 := Lib.hid g1
      clear g1
      by_cases hr : r0 ≤ r1
      · have F2 := Lib.hid (g2 hr)
        clear g2
        cases g3 : fitF b r0
        all_goals
          have F3 := Lib.hid g3
          clear g3
          rcases hxy with ⟨rfl, rfl, hxy⟩ | ⟨rfl, hf⟩ | hf
          · go_wp2_with (first | (go_at_call 17; have hp := HU1.out; refine (up_any a u _).mono ?_; rw [hp]; clear HU1 hp; rintro e w3 ⟨rfl, rfl⟩) | (go_at_call 17; have hp := HU2.out; refine (up_any b u _).mono ?_; rw [hp]; clear HU2 hp; rintro e w3 ⟨rfl, rfl⟩) | (go_at_call 18; refine (fits_any _ _ _).mono ?_; (first | rw [F1.out] | rw [F2.out] | rw [F3.out]); rintro e w4 ⟨rfl, rfl⟩) | (go_at_call 15; refine (live_any _ HT.out).mono ?_; rintro e w5 ⟨rfl, hb⟩; have k0 := (hb.cell (World.block_lt_of_cell? _ _ k0)).trans k0; have k1 := (hb.cell (World.block_lt_of_cell? _ _ k1)).trans k1; have HBL := Lib.hid (HBL.out.trans (hb.mono HBL.out.size)); clear hb))
            go_ret
            exact ⟨rfl, HBL.out⟩
          · have hf' : (f == 0) = false := beq_false_of_ne hf
            go_wp2_with (first | (go_at_call 17; have hp := HU1.out; refine (up_any a u _).mono ?_; rw [hp]; clear HU1 hp; rintro e w3 ⟨rfl, rfl⟩) | (go_at_call 17; have hp := HU2.out; refine (up_any b u _).mono ?_; rw [hp]; clear HU2 hp; rintro e w3 ⟨rfl, rfl⟩) | (go_at_call 18; refine (fits_any _ _ _).mono ?_; (first | rw [F1.out] | rw [F2.out] | rw [F3.out]); rintro e w4 ⟨rfl, rfl⟩) | (go_at_call 15; refine (live_any _ HT.out).mono ?_; rintro e w5 ⟨rfl, hb⟩; have k0 := (hb.cell (World.block_lt_of_cell? _ _ k0)).trans k0; have k1 := (hb.cell (World.block_lt_of_cell? _ _ k1)).trans k1; have HBL := Lib.hid (HBL.out.trans (hb.mono HBL.out.size)); clear hb))
            go_ret
            exact ⟨rfl, HBL.out⟩
          · have hf' : (e == 0) = false := beq_false_of_ne hf
            go_wp2_with (first | (go_at_call 17; have hp := HU1.out; refine (up_any a u _).mono ?_; rw [hp]; clear HU1 hp; rintro e w3 ⟨rfl, rfl⟩) | (go_at_call 17; have hp := HU2.out; refine (up_any b u _).mono ?_; rw [hp]; clear HU2 hp; rintro e w3 ⟨rfl, rfl⟩) | (go_at_call 18; refine (fits_any _ _ _).mono ?_; (first | rw [F1.out] | rw [F2.out] | rw [F3.out]); rintro e w4 ⟨rfl, rfl⟩) | (go_at_call 15; refine (live_any _ HT.out).mono ?_; rintro e w5 ⟨rfl, hb⟩; have k0 := (hb.cell (World.block_lt_of_cell? _ _ k0)).trans k0; have k1 := (hb.cell (World.block_lt_of_cell? _ _ k1)).trans k1; have HBL := Lib.hid (HBL.out.trans (hb.mono HBL.out.size)); clear hb))
            go_ret
            exact ⟨rfl, HBL.out⟩
      · have F2 := F1
        clear g2
        cases g3 : fitF b r0
        all_goals
          have F3 := Lib.hid g3
          clear g3
          rcases hxy with ⟨rfl, rfl, hxy⟩ | ⟨rfl, hf⟩ | hf
          · go_wp2_with (first | (go_at_call 17; have hp := HU1.out; refine (up_any a u _).mono ?_; rw [hp]; clear HU1 hp; rintro e w3 ⟨rfl, rfl⟩) | (go_at_call 17; have hp := HU2.out; refine (up_any b u _).mono ?_; rw [hp]; clear HU2 hp; rintro e w3 ⟨rfl, rfl⟩) | (go_at_call 18; refine (fits_any _ _ _).mono ?_; (first | rw [F1.out] | rw [F2.out] | rw [F3.out]); rintro e w4 ⟨rfl, rfl⟩) | (go_at_call 15; refine (live_any _ HT.out).mono ?_; rintro e w5 ⟨rfl, hb⟩; have k0 := (hb.cell (World.block_lt_of_cell? _ _ k0)).trans k0; have k1 := (hb.cell (World.block_lt_of_cell? _ _ k1)).trans k1; have HBL := Lib.hid (HBL.out.trans (hb.mono HBL.out.size)); clear hb))
            go_ret
            exact ⟨rfl, HBL.out⟩
          · have hf' : (f == 0) = false := beq_false_of_ne hf
            go_wp2_with (first | (go_at_call 17; have hp := HU1.out; refine (up_any a u _).mono ?_; rw [hp]; clear HU1 hp; rintro e w3 ⟨rfl, rfl⟩) | (go_at_call 17; have hp := HU2.out; refine (up_any b u _).mono ?_; rw [hp]; clear HU2 hp; rintro e w3 ⟨rfl, rfl⟩) | (go_at_call 18; refine (fits_any _ _ _).mono ?_; (first | rw [F1.out] | rw [F2.out] | rw [F3.out]); rintro e w4 ⟨rfl, rfl⟩) | (go_at_call 15; refine (live_any _ HT.out).mono ?_; rintro e w5 ⟨rfl, hb⟩; have k0 := (hb.cell (World.block_lt_of_cell? _ _ k0)).trans k0; have k1 := (hb.cell (World.block_lt_of_cell? _ _ k1)).trans k1; have HBL := Lib.hid (HBL.out.trans (hb.mono HBL.out.size)); clear hb))
            go_ret
            exact ⟨rfl, HBL.out⟩
          · have hf' : (e == 0) = false := beq_false_of_ne hf
            go_wp2_with (first | (go_at_call 17; have hp := HU1.out; refine (up_any a u _).mono ?_; rw [hp]; clear HU1 hp; rintro e w3 ⟨rfl, rfl⟩) | (go_at_call 17; have hp := HU2.out; refine (up_any b u _).mono ?_; rw [hp]; clear HU2 hp; rintro e w3 ⟨rfl, rfl⟩) | (go_at_call 18; refine (fits_any _ _ _).mono ?_; (first | rw [F1.out] | rw [F2.out] | rw [F3.out]); rintro e w4 ⟨rfl, rfl⟩) | (go_at_call 15; refine (live_any _ HT.out).mono ?_; rintro e w5 ⟨rfl, hb⟩; have k0 := (hb.cell (World.block_lt_of_cell? _ _ k0)).trans k0; have k1 := (hb.cell (World.block_lt_of_cell? _ _ k1)).trans k1; have HBL := Lib.hid (HBL.out.trans (hb.mono HBL.out.size)); clear hb))
            go_ret
            exact ⟨rfl, HBL.out⟩
    · have F1 := Lib.hid g1
      have F3 := Lib.hid g3
      have F2 := F1
      clear g1 g3
      by_cases hr : r0 ≤ r1
      all_goals
        rcases hxy with ⟨rfl, rfl, hxy⟩ | ⟨rfl, hf⟩ | hf
        · go_wp2_with (first | (go_at_call 17; have hp := HU1.out; refine (up_any a u _).mono ?_; rw [hp]; clear HU1 hp; rintro e w3 ⟨rfl, rfl⟩) | (go_at_call 17; have hp := HU2.out; refine (up_any b u _).mono ?_; rw [hp]; clear HU2 hp; rintro e w3 ⟨rfl, rfl⟩) | (go_at_call 18; refine (fits_any _ _ _).mono ?_; (first | rw [F1.out] | rw [F2.out] | rw [F3.out]); rintro e w4 ⟨rfl, rfl⟩) | (go_at_call 15; refine (live_any _ HT.out).mono ?_; rintro e w5 ⟨rfl, hb⟩; have k0 := (hb.cell (World.block_lt_of_cell? _ _ k0)).trans k0; have k1 := (hb.cell (World.block_lt_of_cell? _ _ k1)).trans k1; have HBL := Lib.hid (HBL.out.trans (hb.mono HBL.out.size)); clear hb))
          go_ret
          exact ⟨rfl, HBL.out⟩
        · have hf' : (f == 0) = false := beq_false_of_ne hf
          go_wp2_with (first | (go_at_call 17; have hp := HU1.out; refine (up_any a u _).mono ?_; rw [hp]; clear HU1 hp; rintro e w3 ⟨rfl, rfl⟩) | (go_at_call 17; have hp := HU2.out; refine (up_any b u _).mono ?_; rw [hp]; clear HU2 hp; rintro e w3 ⟨rfl, rfl⟩) | (go_at_call 18; refine (fits_any _ _ _).mono ?_; (first | rw [F1.out] | rw [F2.out] | rw [F3.out]); rintro e w4 ⟨rfl, rfl⟩) | (go_at_call 15; refine (live_any _ HT.out).mono ?_; rintro e w5 ⟨rfl, hb⟩; have k0 := (hb.cell (World.block_lt_of_cell? _ _ k0)).trans k0; have k1 := (hb.cell (World.block_lt_of_cell? _ _ k1)).trans k1; have HBL := Lib.hid (HBL.out.trans (hb.mono HBL.out.size)); clear hb))
          go_ret
          exact ⟨rfl, HBL.out⟩
        · have hf' : (e == 0) = false := beq_false_of_ne hf
          go_wp2_with (first | (go_at_call 17; have hp := HU1.out; refine (up_any a u _).mono ?_; rw [hp]; clear HU1 hp; rintro e w3 ⟨rfl, rfl⟩) | (go_at_call 17; have hp := HU2.out; refine (up_any b u _).mono ?_; rw [hp]; clear HU2 hp; rintro e w3 ⟨rfl, rfl⟩) | (go_at_call 18; refine (fits_any _ _ _).mono ?_; (first | rw [F1.out] | rw [F2.out] | rw [F3.out]); rintro e w4 ⟨rfl, rfl⟩) | (go_at_call 15; refine (live_any _ HT.out).mono ?_; rintro e w5 ⟨rfl, hb⟩; have k0 := (hb.cell (World.block_lt_of_cell? _ _ k0)).trans k0; have k1 := (hb.cell (World.block_lt_of_cell? _ _ k1)).trans k1; have HBL := Lib.hid (HBL.out.trans (hb.mono HBL.out.size)); clear hb))
          go_ret
          exact ⟨rfl, HBL.out⟩

end Go.Proofs.YtcokgpjmhacmeaaDoor
