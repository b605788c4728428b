/- wharfingerlaw08.WorkqFull answers true for every key, and its argument reads as before. No condition. -/
import Derived.Test.YtemeedfldapcjaaQ4
import Derived.Test.YtemeedfldapcjaaLaw
import Derived.Lib.SmallJoins
namespace Go.Proofs.Ytemeedfldapcjaa
open Go.RowKit
set_option linter.unusedVariables false
set_option linter.unusedSimpArgs false
namespace workqFull
open Go.ChangeShapes Go.WideShapes Go.ChangeAt Go.RowKit

def keyOf (i : Nat) : GKey := ⟨6, ⟨#[UInt8.ofNat i, 120]⟩⟩
def fullQ (n : Nat) : WQ := ⟨(List.range n).map fun i => (keyOf i, ((i : Int) + 1, 0)), [], n⟩

theorem keyOf_inj {i j : Nat} (hi : i < 256) (hj : j < 256) (h : keyOf i = keyOf j) : i = j := by
  simp [keyOf] at h
  have := congrArg UInt8.toNat h
  simp at this
  omega

theorem fullQ_none {n : Nat} (hn : n < 256) : assoc (fullQ n).waits (keyOf n) = none := by
  simp only [assoc, fullQ, Option.map_eq_none_iff, List.find?_eq_none]
  intro p hp
  obtain ⟨i, hi, rfl⟩ := List.mem_map.1 hp
  have hi' := List.mem_range.1 hi
  simp
  intro h
  have := keyOf_inj hn (by omega) h
  omega

theorem fullQ_add {n : Nat} (hn : n < 256) : (fullQ n).add (keyOf n) = fullQ (n + 1) ∧ (fullQ n).code (keyOf n) = 0 := by
  have h1 := fullQ_none hn
  have h2 : (fullQ n).full (keyOf n) = false := by simp [WQ.full, fullQ]; omega
  have h3 : (fullQ n).waits.findIdx? (fun p => decide (keyOf n = p.1)) = none := by
    rw [List.findIdx?_eq_none_iff]
    simp only [assoc, Option.map_eq_none_iff, List.find?_eq_none] at h1
    intro x hx
    simpa using h1 x hx
  constructor
  · simp only [WQ.add, WQ.ins, h2, Bool.false_eq_true, if_false, WQ.put, h1]
    simp only [assocPut, h3]
    simp [fullQ, List.range_succ]
  · simp [WQ.code, h2]


theorem fullQ_len (n : Nat) : (fullQ n).waits.length = n := by simp [fullQ]

theorem fullQ_here (j : Nat) (h : j < 256) : ∃ p, assoc (fullQ 256).waits (keyOf j) = some p := by
  cases h1 : assoc (fullQ 256).waits (keyOf j) with
  | some p => exact ⟨p, rfl⟩
  | none =>
    simp only [assoc, Option.map_eq_none_iff, List.find?_eq_none] at h1
    have := h1 (keyOf j, ((j : Int) + 1, 0)) (by simp only [fullQ]; exact List.mem_map.2 ⟨j, List.mem_range.2 h, rfl⟩)
    simp at this

theorem fullQ_not (k : GKey) (h : ∀ j < 256, k ≠ keyOf j) : assoc (fullQ 256).waits k = none := by
  simp only [assoc, fullQ, Option.map_eq_none_iff, List.find?_eq_none]
  intro p hp
  obtain ⟨i, hi, rfl⟩ := List.mem_map.1 hp
  simp
  exact h i (List.mem_range.1 hi)

theorem put_len (l : List (GKey × (Int × Int))) (k : GKey) (p v : Int × Int) (h : assoc l k = some p) : (assocPut l k v).length = l.length := by
  rw [assoc_eq] at h
  unfold assocPut
  cases h1 : l.findIdx? (fun p => decide (k = p.1)) with
  | none => rw [h1] at h; simp at h
  | some j => simp

theorem put_assoc (l : List (GKey × (Int × Int))) (k : GKey) (p v : Int × Int) (h : assoc l k = some p) : ∃ p', assoc (assocPut l k v) k = some p' := by
  rw [assoc_eq] at h
  unfold assocPut
  cases h1 : l.findIdx? (fun p => decide (k = p.1)) with
  | none => rw [h1] at h; simp at h
  | some j =>
    have hj : j < l.length := (List.findIdx?_eq_some_iff_findIdx_eq.1 h1).1
    cases h2 : assoc (l.set j (k, v)) k with
    | some p' => exact ⟨p', rfl⟩
    | none =>
      simp only [assoc, Option.map_eq_none_iff, List.find?_eq_none] at h2
      have := h2 (k, v) (List.mem_of_getElem? (i := j) (by simp [hj]))
      simp at this

/-- what the two calls behind the loop come to -/
def After (k : GKey) (th : Bool) : Prop :=
  let q := fullQ 256
  q.code k = (if th then 0 else 7) ∧ (q.add k).code k = (if th then 0 else 7) ∧ ((q.add k).fail k 5).waits.length = 256 ∧ 0 ≤ (q.add k).next ∧ (q.add k).next < 1000000000 ∧
    (q.add k).fails = [] ∧ (th = false → ((q.add k).fail k 5).fails = [])

theorem after_there (j : Nat) (h : j < 256) : After (keyOf j) true := by
  obtain ⟨p, hp⟩ := fullQ_here j h
  obtain ⟨p', hp'⟩ := put_assoc _ _ _ (p.1, 0) hp
  have h1 : (fullQ 256).full (keyOf j) = false := by simp [WQ.full, hp]
  have e1 : (fullQ 256).add (keyOf j) = { fullQ 256 with waits := assocPut (fullQ 256).waits (keyOf j) (p.1, 0), fails := (fullQ 256).fails } := by
    simp [WQ.add, WQ.ins, h1, WQ.put, hp]
  have h2 : ((fullQ 256).add (keyOf j)).full (keyOf j) = false := by rw [e1]; simp [WQ.full, hp']
  refine ⟨by simp [WQ.code, h1], by simp [WQ.code, h2], ?_, by rw [e1]; simp [fullQ], by rw [e1]; simp [fullQ], by rw [e1]; rfl, by simp⟩
  unfold WQ.fail WQ.ins
  rw [h2]
  simp only [Bool.false_eq_true, if_false]
  unfold WQ.put
  rw [e1]
  simp only [hp']
  rw [put_len _ _ _ _ hp', put_len _ _ _ _ hp, fullQ_len]

theorem after_not (k : GKey) (h : ∀ j < 256, k ≠ keyOf j) : After k false := by
  have hn := fullQ_not k h
  have h1 : (fullQ 256).full k = true := by simp [WQ.full, hn, fullQ_len]
  have e1 : (fullQ 256).add k = fullQ 256 := by simp [WQ.add, WQ.ins, h1]
  have e2 : (fullQ 256).fail k 5 = fullQ 256 := by simp [WQ.fail, WQ.ins, h1]
  refine ⟨by simp [WQ.code, h1], by rw [e1]; simp [WQ.code, h1], by rw [e1, e2, fullQ_len], by rw [e1]; simp [fullQ], by rw [e1]; simp [fullQ], by rw [e1]; rfl, fun _ => by rw [e1, e2]; rfl⟩

structure Inv (w wr : World) (L : QLoc) (n : Nat) : Prop where
  q : QAt wr L (fullQ n)
  b : Below w.heap.size w wr
  g1 : w.heap.size ≤ L.bq
  g2 : w.heap.size ≤ L.bw
  g3 : w.heap.size ≤ L.bf

set_option maxRecDepth 100000 in
set_option maxHeartbeats 2000000 in
theorem walk (k : GKey) (w : World) : Calls Try.prog 4 #[.agg #[.int .u8 k.kind, .string k.name]] w fun e w' => e = .returned (.bool true) ∧ Below w.heap.size w w' := by
  go_enter Try.func4, Try.ntmps4
  go_wp2_with fail
  have hk0 : (w.alloc (.cells #[.int .u8 k.kind, .string k.name] 28)).heap[w.heap.size]? = some (.cells #[.int .u8 k.kind, .string k.name] 28) := heap_alloc_eq
  have HB0 := Lib.hid ((Below.refl w.heap.size w).alloc (Nat.le_refl _) (.cells #[.int .u8 k.kind, .string k.name] 28))
  generalize w.alloc (.cells #[.int .u8 k.kind, .string k.name] 28) = w0 at *
  refine (new_any w0).mono ?_
  rintro e w1 ⟨L, rfl, hq, hb, g1, g2, g3⟩
  have hs0 := (HB0.out).size
  have hI : Inv w w1 L 0 := ⟨hq, (HB0.out).trans (hb.mono hs0), by omega, by omega, by omega⟩
  have HI := Lib.hid hI
  have hk1 := (hb.block _ (heap_lt hk0)).trans hk0
  have hlt0 := heap_lt hk0
  have hbk : ¬ L.mine w.heap.size := by simp [QLoc.mine]; omega
  clear hq hb hI hk0 HB0
  go_wp2_with fail
  go_loopw [4] (fun i wr => ∃ n : Nat, n ≤ 256 ∧ i = .int .i64 n ∧ Hid (Inv w wr L n) ∧ wr.heap[w.heap.size]? = some (.cells #[.int .u8 k.kind, .string k.name] 28)) (fun i _ => 256 - (intOf i).toNat)
  case atStart => exact ⟨0, by omega, rfl, HI, hk1⟩
  case round =>
    obtain ⟨n, hn, rfl, hI, hk⟩ := hrel
    clear HI hk1
    by_cases hlt : n < 256
    · have hcv : ∀ x : World, x.heap[wr.heap.size]? = some (.cells #[.int .u8 n, .int .u8 120] 5) → (convert 33 9 (.slice (some ⟨wr.heap.size, 0, none⟩) 2 2)).run Try.prog x = .ok (.string ⟨#[UInt8.ofNat n, 120]⟩) x := by
        intro x hx
        have := run_convert_bytes_back x 33 9 5 ⟨wr.heap.size, 0, none⟩ 2 [UInt8.ofNat n, 120] Try.underlying33 Try.underlying5 Try.underlying9 (by
          intro i hi
          have hn' : ((UInt8.ofNat n).toNat : Int) = n := by simp; omega
          match i, hi with
          | 0, _ => simp [World.cell?, hx, hn', Addr.add]; omega
          | 1, _ => simp [World.cell?, hx, Addr.add])
        simpa using this
      have hcv1 := hcv (wr.alloc (.cells #[.int .u8 n, .int .u8 120] 5)) heap_alloc_eq
      clear hcv
      have hq := (hI.out).q.keep ((Keeps.refl (fun _ => False) wr).alloc (.cells #[.int .u8 n, .int .u8 120] 5)) (by simp) (by simp) (by simp)
      have hb := ((hI.out).b.alloc ((hI.out).b.size) (.cells #[.int .u8 n, .int .u8 120] 5))
      have hk' := (heap_alloc_lt (o := .cells #[.int .u8 n, .int .u8 120] 5) (heap_lt hk)).trans hk
      have HQ := Lib.hid hq
      have HB := Lib.hid hb
      clear hq hb
      go_wp2_with fail
      refine (add_any L (fullQ n) (keyOf n) _ HQ.out (by simp [fullQ]; omega)).mono ?_
      rintro e w2 ⟨rfl, hq2, hk2⟩
      rw [(fullQ_add hlt).1] at hq2
      rw [(fullQ_add hlt).2]
      have hk3 := (hk2.block _ (heap_lt hk') hbk).trans hk'
      have hI2 : Inv w w2 L (n + 1) := ⟨hq2, QLoc.above hk2 HB.out (hI.out).g1 (hI.out).g2 (hI.out).g3, (hI.out).g1, (hI.out).g2, (hI.out).g3⟩
      have HI2 := Lib.hid hI2
      clear hq2 hk2 hI2 HQ HB hk' hk hI
      go_wp2
      go_roundw
      case rel => exact ⟨n + 1, by omega, by go_num, HI2, hk3⟩
      case measure => simp [intOf]; omega
    · obtain rfl : n = 256 := by omega
      obtain ⟨c0, f0⟩ := cells_of_block hk 0 (.int .u8 k.kind) rfl
      obtain ⟨c1, f1⟩ := cells_of_block hk 1 (.string k.name) rfl
      clear hlt hn
      by_cases k6 : k.kind = 6
      · obtain ⟨kk, kn⟩ := k
        simp only at k6 c0 c1 hk
        subst k6
        by_cases k2 : kn.size = 2
        · obtain ⟨⟨l⟩⟩ := kn
          obtain ⟨x, y, rfl⟩ : ∃ x y, l = [x, y] := by
            match l, k2 with
            | [x, y], _ => exact ⟨x, y, rfl⟩
          clear k2
          by_cases ky : y = 120
          · subst ky
            have HA : Hid (After ⟨6, ⟨#[x, 120]⟩⟩ true) := by
              have := after_there x.toNat (by have := x.toNat_lt; omega)
              have e : keyOf x.toNat = ⟨6, ⟨#[x, 120]⟩⟩ := by simp [keyOf]
              rw [e] at this; exact this
            go_wp2_with fail
            obtain ⟨b1, b2, b3, b4, b5, b6, b7⟩ := HA.out
            have hqd := (hI.out).q.keep ((Keeps.refl (fun _ => False) wr).drew) (by simp) (by simp) (by simp)
            have HQ := Lib.hid hqd
            have HB := Lib.hid ((hI.out).b.drew)
            have HG := Lib.hid (And.intro (hI.out).g1 (And.intro (hI.out).g2 (hI.out).g3))
            have HB4 := Lib.hid b4
            have HB6 := Lib.hid b6
            have HB7 := Lib.hid b7
            simp only [if_true, if_false, Bool.false_eq_true] at b1 b2
            have H1 := Lib.hid b1
            have H2 := Lib.hid b2
            have H3 := Lib.hid b3
            have H5 := Lib.hid b5
            have hkd : wr.drew.heap[w.heap.size]? = some (.cells #[.int .u8 6, .string ⟨#[x, 120]⟩] 28) := hk
            clear b1 b2 b3 b4 b5 b6 b7 HA hqd hI hk
            refine wp_region_N (fun w' => (w'.cell? ⟨w.heap.size, 0, none⟩ = some (.int .u8 6)) ∧ (w'.cell? ⟨w.heap.size, 1, none⟩ = some (.string ⟨#[x, 120]⟩)))
              [(true, 0), (true, 1), (true, 3), (true, 4), (false, 2), (false, 5), (true, 6), (true, 7)] (by kernel_rfl) (by kernel_rfl) rfl (by kernel_rfl) ?_ ?_
            · exact ⟨by first | assumption | go_keep, by first | assumption | go_keep⟩
            simp only [List.filterMap_cons, List.filterMap_nil, List.getElem?_cons_succ, List.getElem?_cons_zero, Option.map_some]
            apply wpSeq_take _ (by first | rfl | (simp [Region.wanted, yielded]; done))
            · intro w' hS
              obtain ⟨s0, s1⟩ := hS
              skip
              go_simp
              try rfl
            apply wpSeq_take _ (by first | rfl | (simp [Region.wanted, yielded]; done))
            · intro w' hS
              obtain ⟨s0, s1⟩ := hS
              skip
              go_simp
              try rfl
            apply wpSeq_take _ (by first | rfl | (simp [Region.wanted, yielded]; done))
            · intro w' hS
              obtain ⟨s0, s1⟩ := hS
              skip
              go_simp
              try rfl
            apply wpSeq_take _ (by first | rfl | (simp [Region.wanted, yielded]; done))
            · intro w' hS
              obtain ⟨s0, s1⟩ := hS
              skip
              go_simp
              try rfl
            refine wpSeq_alone ?_
            (go_wp2_with fail; refine (add_any L (fullQ 256) ⟨6, ⟨#[x, 120]⟩⟩ _ HQ.out (by simp [fullQ])).mono ?_; rintro e w2 ⟨rfl, hq2, hk2⟩; rw [H1.out]; have hkb := (hk2.block _ (heap_lt hkd) hbk).trans hkd; have d0 := (cells_of_block hkb 0 _ rfl).1; have d1 := (cells_of_block hkb 1 _ rfl).1; have HQ2 := Lib.hid hq2; have HK2 := Lib.hid hk2; clear hq2 hk2; go_wp2)
            refine QS_normal ⟨by first | assumption | go_keep, by first | assumption | go_keep⟩ (fun _ => ?_)
            refine wpSeq_alone ?_
            (go_wp2_with fail; refine (fail_any L _ ⟨6, ⟨#[x, 120]⟩⟩ 5 _ HQ2.out ⟨HB4.out, H5.out⟩ (by rw [HB6.out]; simp [assoc]) (by decide)).mono ?_; rintro e w3 ⟨rfl, hq3, hk3⟩; rw [H2.out]; have hkb3 := (hk3.block _ (heap_lt hkb) hbk).trans hkb; have d2 := (cells_of_block hkb3 0 _ rfl).1; have d3 := (cells_of_block hkb3 1 _ rfl).1; have HQ3 := Lib.hid hq3; have HK3 := Lib.hid (HK2.out.trans hk3); clear hq3 hk3; go_wp2)
            refine QS_normal ⟨by first | assumption | go_keep, by first | assumption | go_keep⟩ (fun _ => ?_)
            apply wpSeq_take _ (by first | rfl | (simp [Region.wanted, yielded]; done))
            · intro w' hS
              obtain ⟨s0, s1⟩ := hS
              skip
              go_simp
              try rfl
            apply wpSeq_take _ (by first | rfl | (simp [Region.wanted, yielded]; done))
            · intro w' hS
              obtain ⟨s0, s1⟩ := hS
              skip
              go_simp
              try rfl
            refine wpSeq_end ?_
            clear c0 c1 f0 f1 d0 d1 hkb hkd HQ HQ2 HK2
            have HB3 := Lib.hid (QLoc.above HK3.out HB.out HG.out.1 HG.out.2.1 HG.out.2.2)
            clear HB HK3
            go_wp2_with fail
            refine (live_any w3).mono ?_
            rintro e w4 ⟨rfl, hb4⟩
            have HQ4 := Lib.hid ((HQ3.out).keep (Keeps.of_below (F := fun _ => False) hb4) (by simp) (by simp) (by simp))
            have HB4' := Lib.hid ((HB3.out).trans (hb4.mono (HB3.out).size))
            have e0 := (hb4.cell (p := ⟨w.heap.size, 0, none⟩) (heap_lt hkb3)).trans d2
            have e1 := (hb4.cell (p := ⟨w.heap.size, 1, none⟩) (heap_lt hkb3)).trans d3
            clear hb4 HQ3 HB3 d2 d3 hkb3
            go_wp2_with fail
            refine (len_any L _ w4 HQ4.out).mono ?_
            rintro e w5 ⟨rfl, rfl⟩
            rw [H3.out]
            go_wp2
            go_ret
            exact ⟨rfl, HB4'.out⟩
          · have HA : Hid (After ⟨6, ⟨#[x, y]⟩⟩ false) := after_not _ (fun j _ e => ky (by simp [keyOf] at e; exact e.2))
            have ky' : ((y.toNat : Int) == 120) = false := by
              simp
              intro h
              exact ky (UInt8.toNat_inj.1 (by simpa using (by omega : y.toNat = 120)))
            have kz : ((((⟨#[x, y]⟩ : ByteArray)[1]'(by show 1 < 2; omega)).toNat : Int) == 120) = false := ky'
            clear ky'
            clear ky
            go_wp2_with fail
            obtain ⟨b1, b2, b3, b4, b5, b6, b7⟩ := HA.out
            have hqd := (hI.out).q.keep ((Keeps.refl (fun _ => False) wr).drew) (by simp) (by simp) (by simp)
            have HQ := Lib.hid hqd
            have HB := Lib.hid ((hI.out).b.drew)
            have HG := Lib.hid (And.intro (hI.out).g1 (And.intro (hI.out).g2 (hI.out).g3))
            have HB4 := Lib.hid b4
            have HB6 := Lib.hid b6
            have HB7 := Lib.hid b7
            simp only [if_true, if_false, Bool.false_eq_true] at b1 b2
            have H1 := Lib.hid b1
            have H2 := Lib.hid b2
            have H3 := Lib.hid b3
            have H5 := Lib.hid b5
            have hkd : wr.drew.heap[w.heap.size]? = some (.cells #[.int .u8 6, .string ⟨#[x, y]⟩] 28) := hk
            clear b1 b2 b3 b4 b5 b6 b7 HA hqd hI hk
            refine wp_region_N (fun w' => (w'.cell? ⟨w.heap.size, 0, none⟩ = some (.int .u8 6)) ∧ (w'.cell? ⟨w.heap.size, 1, none⟩ = some (.string ⟨#[x, y]⟩)))
              [(true, 0), (true, 1), (true, 3), (true, 4), (false, 2), (false, 5), (true, 6), (true, 7)] (by kernel_rfl) (by kernel_rfl) rfl (by kernel_rfl) ?_ ?_
            · exact ⟨by first | assumption | go_keep, by first | assumption | go_keep⟩
            simp only [List.filterMap_cons, List.filterMap_nil, List.getElem?_cons_succ, List.getElem?_cons_zero, Option.map_some]
            apply wpSeq_take _ (by first | rfl | (simp [Region.wanted, yielded]; done))
            · intro w' hS
              obtain ⟨s0, s1⟩ := hS
              skip
              go_simp
              try rfl
            apply wpSeq_take _ (by first | rfl | (simp [Region.wanted, yielded]; done))
            · intro w' hS
              obtain ⟨s0, s1⟩ := hS
              skip
              go_simp
              try rfl
            apply wpSeq_take _ (by first | rfl | (simp [Region.wanted, yielded]; done))
            · intro w' hS
              obtain ⟨s0, s1⟩ := hS
              skip
              go_simp
              try rfl
            apply wpSeq_take _ (by first | rfl | (simp [Region.wanted, yielded]; done))
            · intro w' hS
              obtain ⟨s0, s1⟩ := hS
              skip
              go_simp
              try rfl
            refine wpSeq_alone ?_
            (go_wp2_with fail; refine (add_any L (fullQ 256) ⟨6, ⟨#[x, y]⟩⟩ _ HQ.out (by simp [fullQ])).mono ?_; rintro e w2 ⟨rfl, hq2, hk2⟩; rw [H1.out]; have hkb := (hk2.block _ (heap_lt hkd) hbk).trans hkd; have d0 := (cells_of_block hkb 0 _ rfl).1; have d1 := (cells_of_block hkb 1 _ rfl).1; have HQ2 := Lib.hid hq2; have HK2 := Lib.hid hk2; clear hq2 hk2; go_wp2)
            refine QS_normal ⟨by first | assumption | go_keep, by first | assumption | go_keep⟩ (fun _ => ?_)
            refine wpSeq_alone ?_
            (go_wp2_with fail; refine (fail_any L _ ⟨6, ⟨#[x, y]⟩⟩ 5 _ HQ2.out ⟨HB4.out, H5.out⟩ (by rw [HB6.out]; simp [assoc]) (by decide)).mono ?_; rintro e w3 ⟨rfl, hq3, hk3⟩; rw [H2.out]; have hkb3 := (hk3.block _ (heap_lt hkb) hbk).trans hkb; have d2 := (cells_of_block hkb3 0 _ rfl).1; have d3 := (cells_of_block hkb3 1 _ rfl).1; have HQ3 := Lib.hid hq3; have HK3 := Lib.hid (HK2.out.trans hk3); clear hq3 hk3; go_wp2)
            refine QS_normal ⟨by first | assumption | go_keep, by first | assumption | go_keep⟩ (fun _ => ?_)
            apply wpSeq_take _ (by first | rfl | (simp [Region.wanted, yielded]; done))
            · intro w' hS
              obtain ⟨s0, s1⟩ := hS
              skip
              go_simp
              try rfl
            apply wpSeq_take _ (by first | rfl | (simp [Region.wanted, yielded]; done))
            · intro w' hS
              obtain ⟨s0, s1⟩ := hS
              skip
              go_simp
              try rfl
            refine wpSeq_end ?_
            clear c0 c1 f0 f1 d0 d1 hkb hkd HQ HQ2 HK2
            have HB3 := Lib.hid (QLoc.above HK3.out HB.out HG.out.1 HG.out.2.1 HG.out.2.2)
            clear HB HK3
            go_wp2_with fail
            refine (live_any w3).mono ?_
            rintro e w4 ⟨rfl, hb4⟩
            have HQ4 := Lib.hid ((HQ3.out).keep (Keeps.of_below (F := fun _ => False) hb4) (by simp) (by simp) (by simp))
            have HB4' := Lib.hid ((HB3.out).trans (hb4.mono (HB3.out).size))
            have e0 := (hb4.cell (p := ⟨w.heap.size, 0, none⟩) (heap_lt hkb3)).trans d2
            have e1 := (hb4.cell (p := ⟨w.heap.size, 1, none⟩) (heap_lt hkb3)).trans d3
            clear hb4 HQ3 HB3 d2 d3 hkb3
            go_wp2_with fail
            refine (len_any L _ w4 HQ4.out).mono ?_
            rintro e w5 ⟨rfl, rfl⟩
            rw [H3.out]
            go_wp2_with fail
            refine (fails_any L _ ⟨6, ⟨#[x, y]⟩⟩ w4 HQ4.out).mono ?_
            rintro e w6 ⟨rfl, hb6⟩
            have HB7' := Lib.hid ((HB4'.out).trans (hb6.mono (HB4'.out).size))
            have e7 := HB7.out (by first | rfl | trivial)
            have e8 : (assoc (((fullQ 256).add ⟨6, ⟨#[x, y]⟩⟩).fail ⟨6, ⟨#[x, y]⟩⟩ 5).fails ⟨6, ⟨#[x, y]⟩⟩).getD 0 = 0 := by rw [e7]; rfl
            rw [e8]
            clear e7 e8 hb6
            go_wp2
            go_ret
            exact ⟨rfl, HB7'.out⟩
        · have HA := Lib.hid (after_not ⟨6, kn⟩ (fun j _ e => k2 (by simp [keyOf] at e; rw [e]; rfl)))
          have k2' : ((kn.size : Int) == 2) = false := by simp; omega
          clear k2
          go_wp2_with fail
          obtain ⟨b1, b2, b3, b4, b5, b6, b7⟩ := HA.out
          have hqd := (hI.out).q.keep ((Keeps.refl (fun _ => False) wr).drew) (by simp) (by simp) (by simp)
          have HQ := Lib.hid hqd
          have HB := Lib.hid ((hI.out).b.drew)
          have HG := Lib.hid (And.intro (hI.out).g1 (And.intro (hI.out).g2 (hI.out).g3))
          have HB4 := Lib.hid b4
          have HB6 := Lib.hid b6
          have HB7 := Lib.hid b7
          simp only [if_true, if_false, Bool.false_eq_true] at b1 b2
          have H1 := Lib.hid b1
          have H2 := Lib.hid b2
          have H3 := Lib.hid b3
          have H5 := Lib.hid b5
          have hkd : wr.drew.heap[w.heap.size]? = some (.cells #[.int .u8 6, .string kn] 28) := hk
          clear b1 b2 b3 b4 b5 b6 b7 HA hqd hI hk
          refine wp_region_N (fun w' => (w'.cell? ⟨w.heap.size, 0, none⟩ = some (.int .u8 6)) ∧ (w'.cell? ⟨w.heap.size, 1, none⟩ = some (.string kn)))
            [(true, 0), (true, 1), (true, 3), (true, 4), (false, 2), (false, 5), (true, 6), (true, 7)] (by kernel_rfl) (by kernel_rfl) rfl (by kernel_rfl) ?_ ?_
          · exact ⟨by first | assumption | go_keep, by first | assumption | go_keep⟩
          simp only [List.filterMap_cons, List.filterMap_nil, List.getElem?_cons_succ, List.getElem?_cons_zero, Option.map_some]
          apply wpSeq_take _ (by first | rfl | (simp [Region.wanted, yielded]; done))
          · intro w' hS
            obtain ⟨s0, s1⟩ := hS
            skip
            go_simp
            try rfl
          apply wpSeq_take _ (by first | rfl | (simp [Region.wanted, yielded]; done))
          · intro w' hS
            obtain ⟨s0, s1⟩ := hS
            skip
            go_simp
            try rfl
          apply wpSeq_take _ (by first | rfl | (simp [Region.wanted, yielded]; done))
          · intro w' hS
            obtain ⟨s0, s1⟩ := hS
            skip
            go_simp
            try rfl
          apply wpSeq_take _ (by first | rfl | (simp [Region.wanted, yielded]; done))
          · intro w' hS
            obtain ⟨s0, s1⟩ := hS
            skip
            go_simp
            try rfl
          refine wpSeq_alone ?_
          (go_wp2_with fail; refine (add_any L (fullQ 256) ⟨6, kn⟩ _ HQ.out (by simp [fullQ])).mono ?_; rintro e w2 ⟨rfl, hq2, hk2⟩; rw [H1.out]; have hkb := (hk2.block _ (heap_lt hkd) hbk).trans hkd; have d0 := (cells_of_block hkb 0 _ rfl).1; have d1 := (cells_of_block hkb 1 _ rfl).1; have HQ2 := Lib.hid hq2; have HK2 := Lib.hid hk2; clear hq2 hk2; go_wp2)
          refine QS_normal ⟨by first | assumption | go_keep, by first | assumption | go_keep⟩ (fun _ => ?_)
          refine wpSeq_alone ?_
          (go_wp2_with fail; refine (fail_any L _ ⟨6, kn⟩ 5 _ HQ2.out ⟨HB4.out, H5.out⟩ (by rw [HB6.out]; simp [assoc]) (by decide)).mono ?_; rintro e w3 ⟨rfl, hq3, hk3⟩; rw [H2.out]; have hkb3 := (hk3.block _ (heap_lt hkb) hbk).trans hkb; have d2 := (cells_of_block hkb3 0 _ rfl).1; have d3 := (cells_of_block hkb3 1 _ rfl).1; have HQ3 := Lib.hid hq3; have HK3 := Lib.hid (HK2.out.trans hk3); clear hq3 hk3; go_wp2)
          refine QS_normal ⟨by first | assumption | go_keep, by first | assumption | go_keep⟩ (fun _ => ?_)
          apply wpSeq_take _ (by first | rfl | (simp [Region.wanted, yielded]; done))
          · intro w' hS
            obtain ⟨s0, s1⟩ := hS
            skip
            go_simp
            try rfl
          apply wpSeq_take _ (by first | rfl | (simp [Region.wanted, yielded]; done))
          · intro w' hS
            obtain ⟨s0, s1⟩ := hS
            skip
            go_simp
            try rfl
          refine wpSeq_end ?_
          clear c0 c1 f0 f1 d0 d1 hkb hkd HQ HQ2 HK2
          have HB3 := Lib.hid (QLoc.above HK3.out HB.out HG.out.1 HG.out.2.1 HG.out.2.2)
          clear HB HK3
          go_wp2_with fail
          refine (live_any w3).mono ?_
          rintro e w4 ⟨rfl, hb4⟩
          have HQ4 := Lib.hid ((HQ3.out).keep (Keeps.of_below (F := fun _ => False) hb4) (by simp) (by simp) (by simp))
          have HB4' := Lib.hid ((HB3.out).trans (hb4.mono (HB3.out).size))
          have e0 := (hb4.cell (p := ⟨w.heap.size, 0, none⟩) (heap_lt hkb3)).trans d2
          have e1 := (hb4.cell (p := ⟨w.heap.size, 1, none⟩) (heap_lt hkb3)).trans d3
          clear hb4 HQ3 HB3 d2 d3 hkb3
          go_wp2_with fail
          refine (len_any L _ w4 HQ4.out).mono ?_
          rintro e w5 ⟨rfl, rfl⟩
          rw [H3.out]
          go_wp2_with fail
          refine (fails_any L _ ⟨6, kn⟩ w4 HQ4.out).mono ?_
          rintro e w6 ⟨rfl, hb6⟩
          have HB7' := Lib.hid ((HB4'.out).trans (hb6.mono (HB4'.out).size))
          have e7 := HB7.out (by first | rfl | trivial)
          have e8 : (assoc (((fullQ 256).add ⟨6, kn⟩).fail ⟨6, kn⟩ 5).fails ⟨6, kn⟩).getD 0 = 0 := by rw [e7]; rfl
          rw [e8]
          clear e7 e8 hb6
          go_wp2
          go_ret
          exact ⟨rfl, HB7'.out⟩
      · have HA := Lib.hid (after_not k (fun j _ e => k6 (by rw [e]; rfl)))
        have k6' : (k.kind == 6) = false := by simpa using k6
        go_wp2_with fail
        obtain ⟨b1, b2, b3, b4, b5, b6, b7⟩ := HA.out
        have hqd := (hI.out).q.keep ((Keeps.refl (fun _ => False) wr).drew) (by simp) (by simp) (by simp)
        have HQ := Lib.hid hqd
        have HB := Lib.hid ((hI.out).b.drew)
        have HG := Lib.hid (And.intro (hI.out).g1 (And.intro (hI.out).g2 (hI.out).g3))
        have HB4 := Lib.hid b4
        have HB6 := Lib.hid b6
        have HB7 := Lib.hid b7
        simp only [if_true, if_false, Bool.false_eq_true] at b1 b2
        have H1 := Lib.hid b1
        have H2 := Lib.hid b2
        have H3 := Lib.hid b3
        have H5 := Lib.hid b5
        have hkd : wr.drew.heap[w.heap.size]? = some (.cells #[.int .u8 k.kind, .string k.name] 28) := hk
        clear b1 b2 b3 b4 b5 b6 b7 HA hqd hI hk
        refine wp_region_N (fun w' => (w'.cell? ⟨w.heap.size, 0, none⟩ = some (.int .u8 k.kind)) ∧ (w'.cell? ⟨w.heap.size, 1, none⟩ = some (.string k.name)))
          [(true, 0), (true, 1), (true, 3), (true, 4), (false, 2), (false, 5), (true, 6), (true, 7)] (by kernel_rfl) (by kernel_rfl) rfl (by kernel_rfl) ?_ ?_
        · exact ⟨by first | assumption | go_keep, by first | assumption | go_keep⟩
        simp only [List.filterMap_cons, List.filterMap_nil, List.getElem?_cons_succ, List.getElem?_cons_zero, Option.map_some]
        apply wpSeq_take _ (by first | rfl | (simp [Region.wanted, yielded]; done))
        · intro w' hS
          obtain ⟨s0, s1⟩ := hS
          skip
          go_simp
          try rfl
        apply wpSeq_take _ (by first | rfl | (simp [Region.wanted, yielded]; done))
        · intro w' hS
          obtain ⟨s0, s1⟩ := hS
          skip
          go_simp
          try rfl
        apply wpSeq_take _ (by first | rfl | (simp [Region.wanted, yielded]; done))
        · intro w' hS
          obtain ⟨s0, s1⟩ := hS
          skip
          go_simp
          try rfl
        apply wpSeq_take _ (by first | rfl | (simp [Region.wanted, yielded]; done))
        · intro w' hS
          obtain ⟨s0, s1⟩ := hS
          skip
          go_simp
          try rfl
        refine wpSeq_alone ?_
        (go_wp2_with fail; refine (add_any L (fullQ 256) k _ HQ.out (by simp [fullQ])).mono ?_; rintro e w2 ⟨rfl, hq2, hk2⟩; rw [H1.out]; have hkb := (hk2.block _ (heap_lt hkd) hbk).trans hkd; have d0 := (cells_of_block hkb 0 _ rfl).1; have d1 := (cells_of_block hkb 1 _ rfl).1; have HQ2 := Lib.hid hq2; have HK2 := Lib.hid hk2; clear hq2 hk2; go_wp2)
        refine QS_normal ⟨by first | assumption | go_keep, by first | assumption | go_keep⟩ (fun _ => ?_)
        refine wpSeq_alone ?_
        (go_wp2_with fail; refine (fail_any L _ k 5 _ HQ2.out ⟨HB4.out, H5.out⟩ (by rw [HB6.out]; simp [assoc]) (by decide)).mono ?_; rintro e w3 ⟨rfl, hq3, hk3⟩; rw [H2.out]; have hkb3 := (hk3.block _ (heap_lt hkb) hbk).trans hkb; have d2 := (cells_of_block hkb3 0 _ rfl).1; have d3 := (cells_of_block hkb3 1 _ rfl).1; have HQ3 := Lib.hid hq3; have HK3 := Lib.hid (HK2.out.trans hk3); clear hq3 hk3; go_wp2)
        refine QS_normal ⟨by first | assumption | go_keep, by first | assumption | go_keep⟩ (fun _ => ?_)
        apply wpSeq_take _ (by first | rfl | (simp [Region.wanted, yielded]; done))
        · intro w' hS
          obtain ⟨s0, s1⟩ := hS
          skip
          go_simp
          try rfl
        apply wpSeq_take _ (by first | rfl | (simp [Region.wanted, yielded]; done))
        · intro w' hS
          obtain ⟨s0, s1⟩ := hS
          skip
          go_simp
          try rfl
        refine wpSeq_end ?_
        clear c0 c1 f0 f1 d0 d1 hkb hkd HQ HQ2 HK2
        have HB3 := Lib.hid (QLoc.above HK3.out HB.out HG.out.1 HG.out.2.1 HG.out.2.2)
        clear HB HK3
        go_wp2_with fail
        refine (live_any w3).mono ?_
        rintro e w4 ⟨rfl, hb4⟩
        have HQ4 := Lib.hid ((HQ3.out).keep (Keeps.of_below (F := fun _ => False) hb4) (by simp) (by simp) (by simp))
        have HB4' := Lib.hid ((HB3.out).trans (hb4.mono (HB3.out).size))
        have e0 := (hb4.cell (p := ⟨w.heap.size, 0, none⟩) (heap_lt hkb3)).trans d2
        have e1 := (hb4.cell (p := ⟨w.heap.size, 1, none⟩) (heap_lt hkb3)).trans d3
        clear hb4 HQ3 HB3 d2 d3 hkb3
        go_wp2_with fail
        refine (len_any L _ w4 HQ4.out).mono ?_
        rintro e w5 ⟨rfl, rfl⟩
        rw [H3.out]
        go_wp2_with fail
        refine (fails_any L _ k w4 HQ4.out).mono ?_
        rintro e w6 ⟨rfl, hb6⟩
        have HB7' := Lib.hid ((HB4'.out).trans (hb6.mono (HB4'.out).size))
        have e7 := HB7.out (by first | rfl | trivial)
        have e8 : (assoc (((fullQ 256).add k).fail k 5).fails k).getD 0 = 0 := by rw [e7]; rfl
        rw [e8]
        clear e7 e8 hb6
        go_wp2
        go_ret
        exact ⟨rfl, HB7'.out⟩
theorem own : ownKnob Try.prog.godebug = none := by kernel_rfl
theorem laidOut : laidOutB Try.prog = true := by kernel_rfl
set_option maxRecDepth 100000 in
theorem lifted (os : Os) (started : os.Started) (H : Type) (enc : TypeId × Value → H) :
    ReturnsInHanded {} Try.checked os 4 .any (Rows.workqFullSpec.pre6 enc Try.prog Try.f4 Rows.workqFullRow.domain false) (Rows.workqFullSpec.post enc Try.prog Try.f4 false true false false) := by
  refine returnsInHanded_of_change (C := Try.checked) own started (by kernel_rfl) Try.func4
    (ChangeSpec.witness6 (enc := enc) (C := Try.checked) false ⟨#[], #[.agg #[.int .u8 0, .string ByteArray.empty]], []⟩ 8 (by kernel_rfl) (by kernel_rfl) (by kernel_rfl) (by kernel_rfl)) ?_
  intro W base args ds gs before hval0 hW _ _
  have hval : ∀ (j : Nat) t v, Try.f4.params[j]? = some t → args[j]? = some v → Value.okWide Try.prog W .any base t v := hval0
  have hW' := hW
  obtain ⟨p, q, hA0, hV, rfl, hfz, hnd⟩ := hW
  have hA : DataW.TrodAll enc Try.prog W 0 (fun _ => true) true Try.f4.params.toList args.toList ds p := hA0
  rw [Try.params4] at hA hval
  obtain ⟨v0, vs0, d0, ds0, p0, q0, hargs, rfl, rfl, h0, r0⟩ := trodAll_cons hA
  obtain ⟨rfl, rfl, rfl⟩ := trodAll_nil r0
  obtain rfl : args = #[v0] := by cases args; simp_all
  obtain ⟨rfl, rfl⟩ := trodVars_none hV
  obtain ⟨c0, c1, y0, y1, m, rfl, rfl, rfl, hy0, hy1⟩ := Go.Joins.open_agg2 Try.underlying28 (by kernel_rfl) (by kernel_rfl) (hval 0 28 v0 rfl rfl) h0
  obtain ⟨a, e0, rfl, wa⟩ := DataW.trod_int Try.underlying26 hy0
  obtain ⟨b, e1, rfl, wb⟩ := DataW.trod_string Try.underlying9 hy1
  simp at e0 e1; subst e0 e1
  clear hA0
  refine (walk ⟨a, b⟩ W).mono fun e W' ⟨he, hb⟩ => ?_
  subst he
  exact ⟨_, rfl, law_post rfl hW' laidOut (by rw [Try.params4]; simp only [List.mem_cons, List.not_mem_nil, or_false]; rintro t rfl <;> exact ⟨by kernel_rfl, of_decide_eq_true (by kernel_rfl)⟩) (by kernel_rfl) Try.underlying4 rfl hb⟩

theorem over : Rows.workqFullRow.holds Try.pinned (OpenSpec.ofChange Rows.workqFullSpec) :=
  OpenClaim.holds_of_wide 4 Try.f4 rfl rfl rfl rfl rfl rfl rfl ⟨rfl, rfl, rfl, rfl, rfl⟩ rfl rfl rfl rfl rfl (by kernel_rfl) Try.func4 (by kernel_rfl)
    (of_decide_eq_true (by kernel_rfl)) (by unfold Func.isWrapper; first | (rw [if_pos (by decide +kernel)]; kernel_rfl) | (rw [if_neg (by decide +kernel)]; exact ⟨rfl, rfl⟩))
    (fun os started H enc _ => lifted os started H enc)
theorem proved : Rows.WorkqFullSaid := over
end workqFull
theorem workqFull_holds : Rows.WorkqFullSaid := workqFull.proved
#print axioms workqFull_holds
end Go.Proofs.Ytemeedfldapcjaa
