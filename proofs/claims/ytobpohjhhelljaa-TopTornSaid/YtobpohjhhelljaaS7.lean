/- Layer 6 (store): New, and Open of an empty log: the program's. -/
import Derived.Test.YtobpohjhhelljaaS6
import Derived.Test.YtobpohjhhelljaaB10
import Derived.LoopTactic
namespace Go.Proofs.Ytobpohjhhelljaa
open Go.RowKit
set_option linter.unusedVariables false
set_option linter.unusedSimpArgs false


theorem LogAt.lower {w : World} {B B' p : Nat} {v : Value} {n : Nat} {bs : Bs} {last most : Nat} (h : LogAt w B p v n bs last most) (hB : B' ≤ B) : LogAt w B' p v n bs last most :=
  ⟨h.cells, ⟨h.row.1, ownsRow_mono h.row.2 hB⟩, Nat.le_trans hB h.base, h.hl, h.hn, h.hm⟩
theorem open_nil (w : World) : Calls Try.prog 31 #[.pointer none] w fun e w' => e = .returned (.pointer none) ∧ w' = w := by
  go_enter Try.func31, Try.ntmps31
  go_wp2
  go_ret
  exact ⟨rfl, rfl⟩
def NewS (w : World) (most : Nat) (e : Ending) (w' : World) : Prop := ∃ L cv lv, e = .returned (.pointer (some ⟨L.p, 0, none⟩)) ∧ SA w' w.heap.size L cv lv [] [] 0 most ∧ Below w.heap.size w w'

set_option maxRecDepth 100000 in
set_option maxHeartbeats 4000000 in
theorem open_empty (w : World) (B p : Nat) (v : Value) (most : Nat) (h : LogAt w B p v 0 [] 0 most) : Calls Try.prog 31 #[.pointer (some ⟨p, 0, none⟩)] w (NewS w most) := by
  have hmm := @run_makeMap Try.prog
  have H := Lib.hid h
  clear h
  go_enter Try.func31, Try.ntmps31
  go_wp2_with fail
  have hb0 : Below w.heap.size w (w.alloc (.map #[] 0)) := (Below.refl _ _).alloc (Nat.le_refl _) _
  refine (fork_any _ B p v 0 [] 0 most (H.out.below hb0)).mono ?_
  rintro e w1 ⟨q, u, rfl, hl, hb⟩
  have HL1 := Lib.hid hl
  have HB1 := Lib.hid (hb0.trans (hb.mono hb0.size))
  have HM1 := Lib.hid ((hb.block w.heap.size (by simp)).trans (heap_alloc_eq (w := w) (o := .map #[] 0)))
  clear hl hb hb0
  obtain ⟨W2, hW2⟩ : ∃ W2, W2 = w1.alloc (.cells #[.map (some w.heap.size), .slice none 0 0, .pointer (some ⟨q, 0, none⟩)] 75) := ⟨_, rfl⟩
  have hb2 : Below w1.heap.size w1 W2 := hW2 ▸ (Below.refl _ _).alloc (Nat.le_refl _) _
  have hp2 : W2.heap[w1.heap.size]? = some (.cells #[.map (some w.heap.size), .slice none 0 0, .pointer (some ⟨q, 0, none⟩)] 75 (0, 0)) := by rw [hW2]; exact heap_alloc_eq
  have HL2 := Lib.hid (HL1.out.below hb2)
  have HB2 := Lib.hid (HB1.out.trans (hb2.mono HB1.out.size))
  have HM2 := Lib.hid ((hb2.block _ (heap_lt HM1.out)).trans HM1.out)
  have HP2 := Lib.hid hp2
  obtain ⟨p2, q2⟩ := cells_of_block hp2 2 (.pointer (some ⟨q, 0, none⟩)) rfl
  have hq1 := HL1.out.lt.1
  have hqw := HL1.out.base
  have hs1 := HB1.out.size
  rw [World.size_alloc] at hqw
  have HW2 := Lib.hid hW2
  clear hb2 hp2 hW2
  go_upto_region 4 with fail
  rw [← HW2.out]
  go_wp2_with fail
  refine (clean_any W2 _ q u 0 [] 0 most [] HL2.out parsed_nil).mono ?_
  rintro e w3 ⟨rfl, lv2, n', hn', hl3, _, hk3⟩
  have hn0 : n' = 0 := by simp [encs] at hn'; omega
  subst hn0
  have HL3 := Lib.hid hl3
  have hp3 := (hk3.block _ (heap_lt HP2.out) (by omega)).trans HP2.out
  have HM3 := Lib.hid ((hk3.block _ (heap_lt HM2.out) (by omega)).trans HM2.out)
  have HP3 := Lib.hid hp3
  have HB3 := Lib.hid ((Keeps.of_below (F := fun i => i = q) HB2.out).trans hk3 |>.below (fun i hi hx => by omega))
  obtain ⟨p3, q3⟩ := cells_of_block hp3 2 (.pointer (some ⟨q, 0, none⟩)) rfl
  clear hn' hl3 hk3 hp3 p2 q2
  go_wp2_with fail
  refine (records_log w3 _ q lv2 0 _ 0 most [] HL3.out parsed_nil).mono ?_
  rintro e w4 ⟨u3, rfl, hrows, hb4⟩
  obtain ⟨a, c, rfl⟩ := hrows.lv
  have HL4 := Lib.hid (HL3.out.below hb4)
  have HB4 := Lib.hid (HB3.out.trans (hb4.mono HB3.out.size))
  have HM4 := Lib.hid ((hb4.block _ (heap_lt HM3.out)).trans HM3.out)
  have HP4 := Lib.hid ((hb4.block _ (heap_lt HP3.out)).trans HP3.out)
  clear hrows hb4 p3 q3
  go_wp2
  go_loopw [26] (fun i wr => i = .int .i64 0 ∧ wr = w4) (fun _ _ => 0)
  case atStart => exact ⟨rfl, rfl⟩
  case round =>
    obtain ⟨rfl, rfl⟩ := hrel
    go_wp2
    go_ret
    refine ⟨⟨w1.heap.size, w.heap.size, q⟩, .slice none 0 0, lv2, rfl, ⟨⟨HP4.out, ⟨#[], 0, HM4.out, MapRep.nil _⟩, World.ownsRow_nil _ _ _ _, hs1, Nat.le_refl _⟩, HL4.out.lower (B' := w.heap.size) (by rw [World.size_alloc]; omega), by simp, by simp, rfl⟩, HB4.out⟩

set_option maxRecDepth 100000 in
theorem snew_any (w : World) (n : Int) (h1 : 1 ≤ n) (h2 : n ≤ 4096) : Calls Try.prog 6 #[.int .i64 n] w (NewS w n.toNat) := by
  go_enter Try.func6, Try.ntmps6
  go_wp2_with fail
  refine (new_any n w h1 h2).mono ?_
  rintro e w1 ⟨p, rfl, hl, hb⟩
  have HL := Lib.hid hl
  have HB := Lib.hid hb
  clear hl hb
  go_wp2_with fail
  refine (open_empty w1 _ p _ _ HL.out).mono ?_
  rintro e w2 ⟨L, cv, lv, rfl, hs, hb⟩
  have hfin : NewS w n.toNat (.returned (.pointer (some ⟨L.p, 0, none⟩))) w2 := ⟨L, cv, lv, rfl, ⟨⟨hs.sm.hd, hs.sm.mp, ownsRow_mono hs.sm.ch HB.out.size, Nat.le_trans HB.out.size hs.sm.lo.1, Nat.le_trans HB.out.size hs.sm.lo.2⟩, hs.lg.lower HB.out.size, hs.ok, hs.om, hs.vr⟩, HB.out.trans (hb.mono HB.out.size)⟩
  have HFIN := Lib.hid hfin
  clear hs hb hfin
  go_wp2
  go_ret
  exact HFIN.out
theorem snew_bad (w : World) (n : Int) (h : n < 1 ∨ 4096 < n) : Calls Try.prog 6 #[.int .i64 n] w fun e w' => e = .returned (.pointer none) ∧ w' = w := by
  go_enter Try.func6, Try.ntmps6
  go_wp2_with (first
    | (go_at_call 11; refine (new_bad n w h).mono ?_; rintro e w1 ⟨rfl, rfl⟩)
    | (go_at_call 31; refine (open_nil _).mono ?_; rintro e w1 ⟨rfl, rfl⟩)
    | fail)
  go_ret
  exact ⟨rfl, rfl⟩

end Go.Proofs.Ytobpohjhhelljaa
