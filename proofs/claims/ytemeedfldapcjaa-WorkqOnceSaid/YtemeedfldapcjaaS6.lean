/- A part of the walks: contracts of functions. -/
import Derived.Test.YtemeedfldapcjaaS5
namespace Go.Proofs.Ytemeedfldapcjaa
open Go.RowKit
set_option linter.unusedVariables false
set_option linter.unusedSimpArgs false
abbrev Deed := Int × GKey × Int
abbrev deedCells (d : Deed) : List Value := [.int .i64 d.1, .int .u8 d.2.1.kind, .string d.2.1.name, .int .u64 d.2.2]

/-- deeds in memory -/
structure DeedsAt (w : World) (v : Value) (ds : List Deed) : Prop where
  v : ∃ ao cap, v = .slice ao ds.length cap ∧ cap ≤ maxLen ∧ ds.length ≤ cap ∧
    (0 < ds.length → ∃ a : Addr, ao = some a ∧ a.block < w.heap.size ∧ ∀ j (hj : j < ds.length), ∀ o, o < 4 → w.cell? ((a.add (j * 4)).add o) = (deedCells ds[j])[o]?)
  now : ∀ d ∈ ds, 0 ≤ d.2.2 ∧ d.2.2 ≤ topU

theorem below_mine {w w1 w2 : World} {F : Nat → Prop} (h : Below w.heap.size w w1) (k : Keeps F w1 w2) (hF : ∀ i, F i → w.heap.size ≤ i) : Below w.heap.size w w2 :=
  h.trans ⟨k.os, k.tape, k.output, k.size, fun i hi => k.block i (Nat.lt_of_lt_of_le hi h.size) (fun hf => by have := hF i hf; omega)⟩

theorem Rel.empty : Rel ⟨[], [], 0⟩ ⟨[], []⟩ 0 :=
  ⟨rfl, List.Pairwise.nil, by simp, by simp, by simp, fun _ => rfl, fun _ => by simp [assoc], by simp, by simp, by simp, by simp⟩

theorem add_block (a : Addr) (i : Nat) : (a.add i).block = a.block := by unfold Addr.add; split <;> rfl

/-- two new queues -/
structure Played (w w' : World) (L : QLoc) (R : RLoc) (q : WQ) (r : RQ) (n : Nat) : Prop where
  both : Both w' L R q r n
  b : Below w.heap.size w w'
  new : ∀ k, mine2 L R k → w.heap.size ≤ k

def PlayPost (w : World) (e : Ending) (w' : World) : Prop := ∃ L R q r, e = .returned (.tuple #[.pointer (some ⟨L.bq, 0, none⟩), .pointer (some ⟨R.rq, 0, none⟩), .bool true]) ∧ Played w w' L R q r 60

set_option maxRecDepth 100000 in
set_option maxHeartbeats 4000000 in
theorem play_any (v : Value) (ds : List Deed) (w : World) (h : DeedsAt w v ds) :
    Calls Try.prog 18 #[v] w (PlayPost w) := by
  obtain ⟨⟨ao, cap, rfl, hc1, hc2, hsl⟩, hnow⟩ := h
  have HSL := Lib.hid hsl
  have HNOW := Lib.hid hnow
  unfold maxLen at hc1
  have hlen : ds.length ≤ 9223372036854775807 := by omega
  clear hsl hnow
  go_enter Try.func18, Try.ntmps18
  go_wp2_with fail
  refine (new_any w).mono ?_
  rintro e w1 ⟨L, rfl, hq, hb, g1, g2, g3⟩
  have HB1 := Lib.hid hb
  have HQ1 := Lib.hid hq
  have HG := Lib.hid (show ∀ k, L.mine k → w.heap.size ≤ k by rintro k (rfl | rfl | rfl) <;> assumption)
  clear hq hb g1 g2 g3
  go_wp2_with fail
  refine (newR_any w1).mono ?_
  rintro e w2 ⟨rfl, hr, hb2⟩
  have hp : Played w w2 L ⟨w1.heap.size, .slice none 0 0, .slice none 0 0⟩ ⟨[], [], 0⟩ ⟨[], []⟩ 0 := by
    refine ⟨⟨HQ1.out.keep (Keeps.of_below (F := fun _ => False) hb2) (by simp) (by simp) (by simp), hr, Rel.empty⟩, HB1.out.trans (hb2.mono HB1.out.size), ?_⟩
    rintro k (h | h)
    · exact HG.out k h
    · rcases h with h | h | h
      · have := HB1.out.size; simp only at h; omega
      · cases h
      · cases h
  have HP := Lib.hid hp
  clear hr hb2 hp HB1 HQ1 HG
  generalize hrq : w1.heap.size = rq at *
  clear hrq
  go_wp2_with fail
  go_loopw [7] (fun i wr => ∃ (j : Nat) (R : RLoc) (q : WQ) (r : RQ), j ≤ 60 ∧ j ≤ ds.length ∧ i = .int .i64 j ∧ R.rq = rq ∧ Hid (Played w wr L R q r j)) (fun i _ => 60 - (intOf i).toNat)
  case atStart => exact ⟨0, _, _, _, by omega, by omega, rfl, rfl, HP⟩
  case round =>
    obtain ⟨j, R, q, r, hj, hjd, rfl, hrq, hP⟩ := hrel
    by_cases hlt : j < ds.length ∧ j < 60
    · obtain ⟨hl1, hl2⟩ := hlt
      obtain ⟨a, rfl, hab, hcell⟩ := HSL.out (by omega)
      have hl1' : (j : Int) < ds.length := by omega
      have hl2' : (j : Int) < 60 := by omega
      have hab2 : (a.add (j * 4)).block < w.heap.size := by rw [add_block]; exact hab
      generalize ha : a.add (j * 4) = A at *
      have hcell' := fun o ho => (hP.out.b.cell (p := A.add o) (by rw [add_block]; exact hab2)).trans (ha ▸ hcell j hl1 o ho)
      have x0 := hcell' 0 (by omega)
      have x1 := hcell' 1 (by omega)
      have x2 := hcell' 2 (by omega)
      have x3 := hcell' 3 (by omega)
      simp [Addr.add] at x0 x1 x2 x3
      subst ha
      clear hcell'
      clear hcell hab
      have HD := Lib.hid (HNOW.out ds[j] (List.getElem_mem hl1))
      clear hab2
      go_wp2_with fail
      rw [← hrq]
      refine (do_any L R q r j ds[j].1 ds[j].2.1 ds[j].2.2 wr hP.out.both (by omega) HD.out).mono ?_
      rintro e w5 ⟨rfl, q', r', R', hb5, hk5, hn5⟩
      have HP5 := Lib.hid (show Played w w5 L R' q' r' (j + 1) from ⟨hb5, below_mine hP.out.b hk5 hP.out.new, by
        rintro k (h | h)
        · exact hP.out.new k (.inl h)
        · rcases hn5.own k h with h | h
          · exact hP.out.new k (.inr h)
          · exact Nat.le_trans hP.out.b.size h⟩)
      have hrq5 : R'.rq = rq := hn5.rq.trans hrq
      clear hb5 hk5 hn5 x0 x1 x2 x3
      go_wp2
      go_roundw
      case rel => exact ⟨j + 1, R', q', r', by omega, by omega, by simp, hrq5, HP5⟩
      case measure => simp [intOf]; omega
    · have HPP := Lib.hid (show Played w wr L R q r 60 from ⟨⟨hP.out.both.qa, hP.out.both.ra, hP.out.both.rel.mono hj⟩, hP.out.b, hP.out.new⟩)
      by_cases hl1 : j < ds.length
      · have hl1' : (j : Int) < ds.length := by omega
        have hl2' : ¬ (j : Int) < 60 := by omega
        clear HSL
        go_wp2
        refine bodyPost_ret (v := .tuple #[.pointer (some ⟨L.bq, 0, none⟩), .pointer (some ⟨rq, 0, none⟩), .bool true]) (by simp [results, Try.results18, go_sem]) rfl ⟨L, R, q, r, by rw [hrq], HPP.out⟩
      · have hl1' : ¬ (j : Int) < ds.length := by omega
        clear HSL
        go_wp2
        refine bodyPost_ret (v := .tuple #[.pointer (some ⟨L.bq, 0, none⟩), .pointer (some ⟨rq, 0, none⟩), .bool true]) (by simp [results, Try.results18, go_sem]) rfl ⟨L, R, q, r, by rw [hrq], HPP.out⟩
end Go.Proofs.Ytemeedfldapcjaa
