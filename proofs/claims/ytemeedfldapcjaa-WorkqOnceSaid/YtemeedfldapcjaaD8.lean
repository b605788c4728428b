/- wharfingerlaw08.WorkqOnce answers true for every deeds, key and number, and its arguments read as before. No condition. -/
import Derived.Test.YtemeedfldapcjaaV1
import Derived.Test.YtemeedfldapcjaaLaw
import Derived.Lib.SmallJoins
import Derived.WalkMore
import Derived.OwnWalk
import Derived.RegionTactic
namespace Go.Proofs.Ytemeedfldapcjaa
open Go.RowKit
set_option linter.unusedVariables false
set_option linter.unusedSimpArgs false
namespace workqOnce
open Go.ChangeShapes Go.WideShapes Go.ChangeAt Go.RowKit

set_option maxRecDepth 100000 in
set_option maxHeartbeats 8000000 in
theorem walk (v : Value) (ds : List Deed) (k : GKey) (n : Int) (hn : 0 ≤ n ∧ n ≤ 255) (w : World) (h : DeedsAt w v ds) : Calls Try.prog 7 #[v, .agg #[.int .u8 k.kind, .string k.name], .int .u8 n] w fun e w' => e = .returned (.bool true) ∧ Below w.heap.size w w' := by
  have H := play_any v ds _ (DeedsAt.below h ((Below.refl w.heap.size w).alloc (Nat.le_refl _) (.cells #[.int .u8 k.kind, .string k.name] 28)))
  have HX0 := Lib.hid (show (w.alloc (.cells #[.int .u8 k.kind, .string k.name] 28)).heap[w.heap.size]? = some (.cells #[.int .u8 k.kind, .string k.name] 28) from heap_alloc_eq)
  have HB0 := Lib.hid ((Below.refl w.heap.size w).alloc (Nat.le_refl _) (.cells #[.int .u8 k.kind, .string k.name] 28))
  have HSZ := Lib.hid (show (w.alloc (.cells #[.int .u8 k.kind, .string k.name] 28)).heap.size = w.heap.size + 1 by simp)
  obtain ⟨⟨ao, cap, rfl, _⟩, _⟩ := h
  obtain ⟨n0, n1⟩ := hn
  go_enter Try.func7, Try.ntmps7
  go_wp2_with fail
  refine H.mono ?_
  clear H
  rintro e w1 ⟨L, R, q, r, rfl, hp⟩
  have HX1 := Lib.hid ((hp.b.block _ (by rw [HSZ.out]; omega)).trans HX0.out)
  have HB1 := Lib.hid (HB0.out.trans (hp.b.mono HB0.out.size))
  have HBO := Lib.hid hp.both
  have HL := Lib.hid (show ∀ i, L.mine i → w.heap.size < i from fun i hi => by have := hp.new i (.inl hi); rw [HSZ.out] at this; omega)
  clear hp
  go_wp2_with fail
  refine (live_any w1).mono ?_
  rintro e w2 ⟨rfl, hb⟩
  have HAD := Lib.hid (show AD w w2 L q k 0 from ⟨HBO.out.qa.keep (Keeps.of_below (F := fun _ => False) hb) (by simp) (by simp) (by simp), HB1.out.trans (hb.mono HB1.out.size), HL.out, ⟨r, HBO.out.rel⟩, fun h => absurd h (by omega)⟩)
  have HX2 := Lib.hid ((hb.block _ (heap_lt HX1.out)).trans HX1.out)
  have HNM := Lib.hid (show ¬ L.mine w.heap.size from fun hm => by have := HL.out _ hm; omega)
  clear hb HB1 HBO HX1 HX0 HB0 HSZ
  go_wp2_with fail
  go_loopw [10] (fun i wr => ∃ (j : Nat) (q : WQ), j ≤ 5 ∧ i = .int .i64 j ∧ Hid (AD w wr L q k j) ∧ Hid (wr.heap[w.heap.size]? = some (.cells #[.int .u8 k.kind, .string k.name] 28)) ∧ (j : Int) ≤ n % 5 + 1) (fun i _ => 60 - (intOf i).toNat)
  case atStart => exact ⟨0, _, by omega, rfl, HAD, HX2, by omega⟩
  case round =>
    obtain ⟨j, q, hj, rfl, hA, hX, hjn⟩ := hrel
    clear HAD HX2
    by_cases hlt : (j : Int) ≤ n % 5
    · obtain ⟨b0, _⟩ := cells_of_block hX.out 0 _ rfl
      obtain ⟨b1, _⟩ := cells_of_block hX.out 1 _ rfl
      simp only [List.getElem_toArray, List.getElem_cons_zero, List.getElem_cons_succ] at b0 b1
      go_wp2_with fail
      refine (add_any L q k wr hA.out.qa (by obtain ⟨r, hr⟩ := hA.out.rel; have := hr.nx; omega)).mono ?_
      rintro e w5 ⟨rfl, hq5, hk5⟩
      rw [(hA.out.code (by omega)).1]
      have HA5 := Lib.hid (hA.out.next (by omega) hq5 hk5)
      have HX5 := Lib.hid ((hk5.block _ (heap_lt hX.out) HNM.out).trans hX.out)
      clear hq5 hk5 b0 b1
      go_wp2_with fail
      go_roundw
      case rel => exact ⟨j + 1, q.add k, by omega, by simp, HA5, HX5, by omega⟩
      case measure => simp [intOf]; omega
    · obtain ⟨r, hr⟩ := hA.out.rel
      obtain ⟨p, hp⟩ := hA.out.has (by omega)
      have hlen : q.waits.length ≤ 500 := by have := hr.len; omega
      have hdm := drain_mem q.waits.length q.waits rfl hr.keys
      have hin : k ∈ drain q.waits.length q.waits := (hdm.2 k).2 (List.mem_map.2 ⟨_, assoc_mem hp, rfl⟩)
      have HND := Lib.hid hdm.1
      have HIN := Lib.hid hin
      have hkl : (drain q.waits.length q.waits).length ≤ 500 := Nat.le_trans (drain_le _ _) hlen
      have HKL := Lib.hid hkl
      have HTK := Lib.hid (show TK w wr L q (drain q.waits.length q.waits) from ⟨hA.out.qa, hA.out.b, hA.out.new, hr.since, hr.keys, hr.top, rfl⟩)
      have HLI := Lib.hid (list_any L q wr hA.out.qa hr.since hr.keys hr.top hlen)
      generalize drain q.waits.length q.waits = keys at *
      clear hr hp hdm hin hA hkl
      go_wp2_with fail
      refine (HLI.out).mono ?_
      rintro e w6 ⟨va, rfl, hrow, hb⟩
      obtain ⟨al, cl, rfl, hlk, hcl⟩ := keysRow_open hrow
      have HCL := Lib.hid hcl
      have HROW := Lib.hid hrow
      have HT6 := Lib.hid (HTK.out.next hb)
      have HX6 := Lib.hid ((hb.block _ (heap_lt hX.out)).trans hX.out)
      clear hrow hb HLI HTK hX hcl
      go_wp2_with fail
      obtain ⟨ik, hik, hki, huq⟩ := count_once HND.out HIN.out
      have HUQ := Lib.hid huq
      have HKI := Lib.hid hki
      clear huq hki HIN hlen
      go_loopw [11, 13] (fun s i wr => ∃ j2 : Nat, j2 ≤ keys.length ∧ i = .int .i64 j2 ∧ s = .int .i64 (if ik < j2 then 1 else 0) ∧ Hid (Still w6 wr)) (fun _ i _ => keys.length - (intOf i).toNat)
      case atStart => exact ⟨0, Nat.zero_le _, rfl, by simp, Lib.hid (Still.refl _)⟩
      case round =>
        obtain ⟨j2, hj2, rfl, rfl, hS⟩ := hrel
        by_cases hjl : j2 < keys.length
        · have hjl2 : (j2 : Int) < keys.length := by omega
          obtain ⟨g, rfl, x0, x1⟩ := HCL.out j2 hjl
          have b0 := (hS.out.cell ⟨w.heap.size, 0, none⟩).trans (cells_of_block HX6.out 0 _ rfl).1
          have b1 := (hS.out.cell ⟨w.heap.size, 1, none⟩).trans (cells_of_block HX6.out 1 _ rfl).1
          have a0 := (hS.out.cell ⟨g, j2 * 2, none⟩).trans x0
          have a1 := (hS.out.cell ⟨g, j2 * 2 + 1, none⟩).trans x1
          simp only [List.getElem_toArray, List.getElem_cons_zero, List.getElem_cons_succ] at b0 b1
          by_cases hjk : j2 = ik
          · have hkk : keys[j2] = k := by subst hjk; exact HKI.out
            have p1 : (keys[j2].kind = k.kind) = True := by simp [hkk]
            have p2 : (keys[j2].name.toList = k.name.toList) = True := by simp [hkk]
            have s0 : (if ik < j2 then (1 : Int) else 0) = 0 := by simp; omega
            have s1 : (if ik < j2 + 1 then (1 : Int) else 0) = 1 := by simp; omega
            rw [s0]
            clear hkk hjk s0
            go_wp2
            go_still (by kernel_rfl)
            go_wp2
            clear b0 b1 a0 a1 p1 p2
            go_loopw [14] (fun i wr2 => ∃ m : Nat, m ≤ j2 ∧ i = .int .i64 m ∧ Hid (Still w6 wr2)) (fun i _ => j2 - (intOf i).toNat)
            case atStart => exact ⟨0, Nat.zero_le _, rfl, Lib.hid hS.out.drew⟩
            case round =>
              obtain ⟨m, hm, rfl, hS2⟩ := hrel
              by_cases hml : m < j2
              · have hml2 : (m : Int) < j2 := by omega
                have hmk : m < keys.length := by omega
                have hmk2 : (m : Int) < keys.length := by omega
                obtain ⟨g2, hg2, y0, y1⟩ := HCL.out m (by omega)
                obtain rfl : g = g2 := by simpa using hg2
                have z0 := (hS2.out.cell ⟨g, j2 * 2, none⟩).trans x0
                have z1 := (hS2.out.cell ⟨g, j2 * 2 + 1, none⟩).trans x1
                have v0 := (hS2.out.cell ⟨g, m * 2, none⟩).trans y0
                have v1 := (hS2.out.cell ⟨g, m * 2 + 1, none⟩).trans y1
                have hne : ¬ keys[m] = keys[j2] := fun e => by have := nodup_inj HND.out (by omega) hjl e; omega
                have hcase : ¬ keys[m].kind = keys[j2].kind ∨ ((keys[m].kind = keys[j2].kind) = True ∧ ¬ keys[m].name.toList = keys[j2].name.toList) := by
                  by_cases p1 : keys[m].kind = keys[j2].kind
                  · exact .inr ⟨by simp [p1], fun p2 => hne (key_ext.2 ⟨p1, p2⟩)⟩
                  · exact .inl p1
                clear hne y0 y1 hg2
                rcases hcase with p1 | ⟨p1, p2⟩
                · go_wp2
                  go_still (by kernel_rfl)
                  go_wp2
                  go_roundw
                  case rel => exact ⟨m + 1, by omega, by simp, Lib.hid hS2.out.drew⟩
                  case measure => simp [intOf]; omega
                · go_wp2
                  go_still (by kernel_rfl)
                  go_wp2
                  go_roundw
                  case rel => exact ⟨m + 1, by omega, by simp, Lib.hid hS2.out.drew⟩
                  case measure => simp [intOf]; omega
              · have hml2 : ¬ (m : Int) < j2 := by omega
                go_wp2
                go_roundw
                case rel => exact ⟨j2 + 1, by omega, by simp, by rw [s1], Lib.hid hS2.out⟩
                case measure => simp [intOf]; omega
          · have hkk : ¬ keys[j2] = k := fun e => hjk (HUQ.out j2 hjl e)
            have hcase : ¬ keys[j2].kind = k.kind ∨ ((keys[j2].kind = k.kind) = True ∧ ¬ keys[j2].name.toList = k.name.toList) := by
              by_cases p1 : keys[j2].kind = k.kind
              · exact .inr ⟨by simp [p1], fun p2 => hkk (key_ext.2 ⟨p1, p2⟩)⟩
              · exact .inl p1
            have s1 : (if ik < j2 + 1 then (1 : Int) else 0) = (if ik < j2 then 1 else 0) := by
              by_cases h1 : ik < j2
              · rw [if_pos h1, if_pos (by omega)]
              · rw [if_neg h1, if_neg (by omega)]
            generalize hsn : (if ik < j2 then (1 : Int) else 0) = sn at *
            clear hkk hsn
            rcases hcase with p1 | ⟨p1, p2⟩
            · go_wp2
              go_still (by kernel_rfl)
              go_wp2
              clear b0 b1 a0 a1 p1
              go_loopw [14] (fun i wr2 => ∃ m : Nat, m ≤ j2 ∧ i = .int .i64 m ∧ Hid (Still w6 wr2)) (fun i _ => j2 - (intOf i).toNat)
              case atStart => exact ⟨0, Nat.zero_le _, rfl, Lib.hid hS.out.drew⟩
              case round =>
                obtain ⟨m, hm, rfl, hS2⟩ := hrel
                by_cases hml : m < j2
                · have hml2 : (m : Int) < j2 := by omega
                  have hmk : m < keys.length := by omega
                  have hmk2 : (m : Int) < keys.length := by omega
                  obtain ⟨g2, hg2, y0, y1⟩ := HCL.out m (by omega)
                  obtain rfl : g = g2 := by simpa using hg2
                  have z0 := (hS2.out.cell ⟨g, j2 * 2, none⟩).trans x0
                  have z1 := (hS2.out.cell ⟨g, j2 * 2 + 1, none⟩).trans x1
                  have v0 := (hS2.out.cell ⟨g, m * 2, none⟩).trans y0
                  have v1 := (hS2.out.cell ⟨g, m * 2 + 1, none⟩).trans y1
                  have hne : ¬ keys[m] = keys[j2] := fun e => by have := nodup_inj HND.out (by omega) hjl e; omega
                  have hcase : ¬ keys[m].kind = keys[j2].kind ∨ ((keys[m].kind = keys[j2].kind) = True ∧ ¬ keys[m].name.toList = keys[j2].name.toList) := by
                    by_cases p1 : keys[m].kind = keys[j2].kind
                    · exact .inr ⟨by simp [p1], fun p2 => hne (key_ext.2 ⟨p1, p2⟩)⟩
                    · exact .inl p1
                  clear hne y0 y1 hg2
                  rcases hcase with p1 | ⟨p1, p2⟩
                  · go_wp2
                    go_still (by kernel_rfl)
                    go_wp2
                    go_roundw
                    case rel => exact ⟨m + 1, by omega, by simp, Lib.hid hS2.out.drew⟩
                    case measure => simp [intOf]; omega
                  · go_wp2
                    go_still (by kernel_rfl)
                    go_wp2
                    go_roundw
                    case rel => exact ⟨m + 1, by omega, by simp, Lib.hid hS2.out.drew⟩
                    case measure => simp [intOf]; omega
                · have hml2 : ¬ (m : Int) < j2 := by omega
                  go_wp2
                  go_roundw
                  case rel => exact ⟨j2 + 1, by omega, by simp, by rw [s1], Lib.hid hS2.out⟩
                  case measure => simp [intOf]; omega
            · go_wp2
              go_still (by kernel_rfl)
              go_wp2
              clear b0 b1 a0 a1 p1 p2
              go_loopw [14] (fun i wr2 => ∃ m : Nat, m ≤ j2 ∧ i = .int .i64 m ∧ Hid (Still w6 wr2)) (fun i _ => j2 - (intOf i).toNat)
              case atStart => exact ⟨0, Nat.zero_le _, rfl, Lib.hid hS.out.drew⟩
              case round =>
                obtain ⟨m, hm, rfl, hS2⟩ := hrel
                by_cases hml : m < j2
                · have hml2 : (m : Int) < j2 := by omega
                  have hmk : m < keys.length := by omega
                  have hmk2 : (m : Int) < keys.length := by omega
                  obtain ⟨g2, hg2, y0, y1⟩ := HCL.out m (by omega)
                  obtain rfl : g = g2 := by simpa using hg2
                  have z0 := (hS2.out.cell ⟨g, j2 * 2, none⟩).trans x0
                  have z1 := (hS2.out.cell ⟨g, j2 * 2 + 1, none⟩).trans x1
                  have v0 := (hS2.out.cell ⟨g, m * 2, none⟩).trans y0
                  have v1 := (hS2.out.cell ⟨g, m * 2 + 1, none⟩).trans y1
                  have hne : ¬ keys[m] = keys[j2] := fun e => by have := nodup_inj HND.out (by omega) hjl e; omega
                  have hcase : ¬ keys[m].kind = keys[j2].kind ∨ ((keys[m].kind = keys[j2].kind) = True ∧ ¬ keys[m].name.toList = keys[j2].name.toList) := by
                    by_cases p1 : keys[m].kind = keys[j2].kind
                    · exact .inr ⟨by simp [p1], fun p2 => hne (key_ext.2 ⟨p1, p2⟩)⟩
                    · exact .inl p1
                  clear hne y0 y1 hg2
                  rcases hcase with p1 | ⟨p1, p2⟩
                  · go_wp2
                    go_still (by kernel_rfl)
                    go_wp2
                    go_roundw
                    case rel => exact ⟨m + 1, by omega, by simp, Lib.hid hS2.out.drew⟩
                    case measure => simp [intOf]; omega
                  · go_wp2
                    go_still (by kernel_rfl)
                    go_wp2
                    go_roundw
                    case rel => exact ⟨m + 1, by omega, by simp, Lib.hid hS2.out.drew⟩
                    case measure => simp [intOf]; omega
                · have hml2 : ¬ (m : Int) < j2 := by omega
                  go_wp2
                  go_roundw
                  case rel => exact ⟨j2 + 1, by omega, by simp, by rw [s1], Lib.hid hS2.out⟩
                  case measure => simp [intOf]; omega
        · have hjl2 : ¬ (j2 : Int) < keys.length := by omega
          have s1 : (if ik < j2 then (1 : Int) else 0) = 1 := by simp; omega
          rw [s1]
          clear HUQ HKI HND s1
          have HTW := Lib.hid (HT6.out.next hS.out.b)
          have HRW := Lib.hid (keysRow_own HROW.out fun i hi => by rw [hS.out.heap])
          have HXW := Lib.hid ((show wr.heap[w.heap.size]? = w6.heap[w.heap.size]? by rw [hS.out.heap]).trans HX6.out)
          clear HCL HT6 HROW HX6 hS
          go_wp2
          go_loopw [15] (fun i wr => ∃ (j3 : Nat) (q : WQ), j3 ≤ keys.length ∧ i = .int .i64 j3 ∧ Hid (TK w wr L q (keys.drop j3)) ∧ Hid (∃ B, wr.ownsRow B 28 2 (.slice al keys.length cl) keys.length (keys.flatMap keyCells)) ∧ Hid (wr.heap[w.heap.size]? = some (.cells #[.int .u8 k.kind, .string k.name] 28))) (fun i _ => keys.length - (intOf i).toNat)
          case atStart => exact ⟨0, q, Nat.zero_le _, rfl, HTW, Lib.hid ⟨_, HRW.out⟩, HXW⟩
          case round =>
            obtain ⟨j3, q, hj3, rfl, hT, hRow, hX⟩ := hrel
            clear HTW HRW HXW
            by_cases hl3 : j3 < keys.length
            · have hl3' : (j3 : Int) < keys.length := by omega
              have hdr : keys.drop j3 = keys[j3] :: keys.drop (j3 + 1) := List.drop_eq_getElem_cons hl3
              rw [hdr] at hT
              clear hdr
              go_wp2_with fail
              refine (took_any L q topU wr hT.out.qa hT.out.since).mono ?_
              rintro e w8 ⟨rfl, hq8, hk8⟩
              obtain ⟨ht8, hT8⟩ := hT.out.took hq8 hk8
              rw [ht8]
              obtain ⟨B, hrw⟩ := hRow.out
              have hrw8 : w8.ownsRow B 28 2 (.slice al keys.length cl) keys.length (keys.flatMap keyCells) := keysRow_own hrw fun i hi => by
                obtain ⟨cur, hc⟩ := keysRow_block hrw hi
                exact hk8.block _ (heap_lt hc) (hT.out.qa.apartK hc)
              have hrw9 : (w8.alloc (.cells #[.int .u8 keys[j3].kind, .string keys[j3].name] 28)).ownsRow B 28 2 (.slice al keys.length cl) keys.length (keys.flatMap keyCells) := keysRow_own hrw8 fun i hi => heap_alloc_lt (keysRow_lt hrw8 hi).2
              obtain ⟨al', cl', he, _, hc9⟩ := keysRow_open hrw9
              obtain ⟨g, hg, x0, x1⟩ := hc9 j3 hl3
              obtain ⟨rfl, rfl⟩ : al = al' ∧ cl = cl' := by simpa using he
              subst hg
              have hx8 := (hk8.block _ (heap_lt hX.out) HNM.out).trans hX.out
              have HT9 := Lib.hid (hT8.next ((Below.refl _ _).alloc (Nat.le_refl _) (.cells #[.int .u8 keys[j3].kind, .string keys[j3].name] 28)))
              have HX9 := Lib.hid ((heap_alloc_lt (o := Obj.cells #[.int .u8 keys[j3].kind, .string keys[j3].name] 28) (heap_lt hx8)).trans hx8)
              have HRW9 := Lib.hid hrw9
              have hb9 : (w8.alloc (.cells #[.int .u8 keys[j3].kind, .string keys[j3].name] 28)).heap[w8.heap.size]? = some (.cells #[.int .u8 keys[j3].kind, .string keys[j3].name] 28) := heap_alloc_eq
              obtain ⟨y0, _⟩ := cells_of_block hb9 0 _ rfl
              obtain ⟨y1, _⟩ := cells_of_block hb9 1 _ rfl
              simp only [List.getElem_toArray, List.getElem_cons_zero, List.getElem_cons_succ] at y0 y1
              clear hq8 hk8 ht8 hT8 hrw hrw8 hrw9 he hc9 hx8 hb9 hT hRow hX
              simp only [takeV]
              go_wp2
              generalize hW9 : w8.alloc (.cells #[.int .u8 keys[j3].kind, .string keys[j3].name] 28) = W9 at *
              clear hW9
              refine wp_region_N (fun w' => (w'.cell? ⟨w8.heap.size, 0, none⟩ = some (.int .u8 keys[j3].kind)) ∧ (w'.cell? ⟨w8.heap.size, 1, none⟩ = some (.string keys[j3].name)) ∧ (w'.cell? ⟨g, j3 * 2, none⟩ = some (.int .u8 keys[j3].kind)) ∧ (w'.cell? ⟨g, j3 * 2 + 1, none⟩ = some (.string keys[j3].name)))
                [(true, 0), (true, 1), (true, 2), (true, 3), (true, 4), (true, 5), (true, 6), (true, 7), (true, 8), (true, 9)] (by kernel_rfl) (by kernel_rfl) rfl (by kernel_rfl) ?_ ?_
              · exact ⟨by go_keep, by go_keep, by go_keep, by go_keep⟩
              simp only [List.filterMap_cons, List.filterMap_nil, List.getElem?_cons_succ, List.getElem?_cons_zero, Option.map_some]
              apply wpSeq_takeK _ (by first | rfl | (simp [Region.wanted, yielded]; done))
              · intro w' hS
                obtain ⟨s0, s1, s2, s3⟩ := hS
                skip
                go_simp
                try rfl
              intro K hK
              go_simp
              refine hK _ ?_
              clear hK K
              apply wpSeq_takeK _ (by first | rfl | (simp [Region.wanted, yielded]; done))
              · intro w' hS
                obtain ⟨s0, s1, s2, s3⟩ := hS
                skip
                go_simp
                try rfl
              intro K hK
              go_simp
              refine hK _ ?_
              clear hK K
              apply wpSeq_takeK _ (by first | rfl | (simp [Region.wanted, yielded]; done))
              · intro w' hS
                obtain ⟨s0, s1, s2, s3⟩ := hS
                skip
                go_simp
                try rfl
              intro K hK
              go_simp
              refine hK _ ?_
              clear hK K
              apply wpSeq_takeK _ (by first | rfl | (simp [Region.wanted, yielded]; done))
              · intro w' hS
                obtain ⟨s0, s1, s2, s3⟩ := hS
                skip
                go_simp
                try rfl
              intro K hK
              go_simp
              refine hK _ ?_
              clear hK K
              apply wpSeq_takeK _ (by first | rfl | (simp [Region.wanted, yielded]; done))
              · intro w' hS
                obtain ⟨s0, s1, s2, s3⟩ := hS
                skip
                go_simp
                try rfl
              intro K hK
              go_simp
              refine hK _ ?_
              clear hK K
              apply wpSeq_takeK _ (by first | rfl | (simp [Region.wanted, yielded]; done))
              · intro w' hS
                obtain ⟨s0, s1, s2, s3⟩ := hS
                skip
                go_simp
                try rfl
              intro K hK
              go_simp
              refine hK _ ?_
              clear hK K
              apply wpSeq_takeK _ (by first | rfl | (simp [Region.wanted, yielded]; done))
              · intro w' hS
                obtain ⟨s0, s1, s2, s3⟩ := hS
                skip
                go_simp
                try rfl
              intro K hK
              go_simp
              refine hK _ ?_
              clear hK K
              apply wpSeq_takeK _ (by first | rfl | (simp [Region.wanted, yielded]; done))
              · intro w' hS
                obtain ⟨s0, s1, s2, s3⟩ := hS
                skip
                go_simp
                try rfl
              intro K hK
              go_simp
              refine hK _ ?_
              clear hK K
              apply wpSeq_takeK _ (by first | rfl | (simp [Region.wanted, yielded]; done))
              · intro w' hS
                obtain ⟨s0, s1, s2, s3⟩ := hS
                skip
                go_simp
                try rfl
              intro K hK
              go_simp
              refine hK _ ?_
              clear hK K
              apply wpSeq_takeK _ (by first | rfl | (simp [Region.wanted, yielded]; done))
              · intro w' hS
                obtain ⟨s0, s1, s2, s3⟩ := hS
                skip
                go_simp
                try rfl
              intro K hK
              go_simp
              refine hK _ ?_
              clear hK K
              refine wpSeq_end ?_
              go_wp2
              go_roundw
              case rel => exact ⟨j3 + 1, q.drop keys[j3], by omega, by simp, Lib.hid (HT9.out.next (Below.refl _ _).drew), Lib.hid ⟨B, HRW9.out⟩, Lib.hid HX9.out⟩
              case measure => simp [intOf]; omega
            · have hl3' : ¬ (j3 : Int) < keys.length := by omega
              have hdr : keys.drop j3 = [] := List.drop_eq_nil_of_le (by omega)
              rw [hdr] at hT
              have hq0 := hT.out.empty
              have HQ0 := Lib.hid hq0
              obtain ⟨b0, _⟩ := cells_of_block hX.out 0 _ rfl
              obtain ⟨b1, _⟩ := cells_of_block hX.out 1 _ rfl
              simp only [List.getElem_toArray, List.getElem_cons_zero, List.getElem_cons_succ] at b0 b1
              clear hdr hq0 hRow
              go_wp2_with fail
              refine (due_any L q k wr hT.out.qa).mono ?_
              rintro e w8 ⟨rfl, hb⟩
              have HT9 := Lib.hid (hT.out.next hb)
              rw [HQ0.out]
              have e1 : assoc ([] : List (GKey × (Int × Int))) k = none := rfl
              rw [e1]
              clear e1 hb b0 b1
              simp only [Option.getD_none, Option.isSome_none]
              go_wp2_with fail
              refine (len_any L q w8 HT9.out.qa).mono ?_
              rintro e w9 ⟨rfl, rfl⟩
              rw [HQ0.out]
              go_wp2
              go_ret
              exact ⟨ret_true (by simp), HT9.out.b⟩

theorem own : ownKnob Try.prog.godebug = none := by kernel_rfl
theorem laidOut : laidOutB Try.prog = true := by kernel_rfl
set_option maxRecDepth 100000 in
theorem lifted (os : Os) (started : os.Started) (H : Type) (enc : TypeId × Value → H) :
    ReturnsInHanded {} Try.checked os 7 .any (Rows.workqOnceSpec.pre6 enc Try.prog Try.f7 Rows.workqOnceRow.domain false) (Rows.workqOnceSpec.post enc Try.prog Try.f7 false true false false) := by
  refine returnsInHanded_of_change (C := Try.checked) own started (by kernel_rfl) Try.func7
    (ChangeSpec.witness6 (enc := enc) (C := Try.checked) false ⟨#[], #[.slice none 0 0, .agg #[.int .u8 0, .string ByteArray.empty], .int .u8 0], []⟩ 8 (by kernel_rfl) (by kernel_rfl) (by kernel_rfl) (by kernel_rfl)) ?_
  intro W base args ds gs before hval0 hW _ _
  have hval : ∀ (j : Nat) t v, Try.f7.params[j]? = some t → args[j]? = some v → Value.okWide Try.prog W .any base t v := hval0
  have hW' := hW
  obtain ⟨p, q, hA0, hV, rfl, hfz, hnd⟩ := hW
  have hA : DataW.TrodAll enc Try.prog W 0 (fun _ => true) true Try.f7.params.toList args.toList ds p := hA0
  rw [Try.params7] at hA hval
  obtain ⟨v0, vs0, d0, ds0, p0, q0, hargs, rfl, rfl, h0, r0⟩ := trodAll_cons hA
  obtain ⟨v1, vs1, d1, ds1, p1, q1, rfl, rfl, rfl, h1, r1⟩ := trodAll_cons r0
  obtain ⟨v2, vs2, d2, ds2, p2, q2, rfl, rfl, rfl, h2, r2⟩ := trodAll_cons r1
  obtain ⟨rfl, rfl, rfl⟩ := trodAll_nil r2
  obtain rfl : args = #[v0, v1, v2] := by cases args; simp_all
  obtain ⟨rfl, rfl⟩ := trodVars_none hV
  obtain ⟨fuel0, hf0⟩ := h0
  obtain ⟨vv0, l0, e0, hd0⟩ := open_deeds hf0
  obtain ⟨sa0, sl0, sc0, rfl⟩ := okWide_slice Try.underlying38 (hval 0 38 v0 rfl rfl)
  obtain rfl : vv0 = .slice sa0 sl0 sc0 := by simpa [Value.cells] using e0.symm
  have hvk1 := hval 1 28 v1 rfl rfl
  simp only [Value.okWide, Try.underlying28] at hvk1
  obtain ⟨kc1, rfl, _, _⟩ := hvk1
  obtain ⟨fuel1, hf1⟩ := h1
  obtain ⟨k1, ek1, wk1⟩ := open_key hf1
  obtain rfl : kc1 = #[.int .u8 k1.kind, .string k1.name] := by
      apply Array.toList_inj.1
      simpa [Value.cells] using ek1
  obtain ⟨a2, rfl, rfl, rfl, w2⟩ := open_int Try.underlying5 (hval 2 5 v2 rfl rfl) h2
  clear hA0
  refine (walk _ l0 k1 a2 (by simpa [Lit.wf, IntKind.min, IntKind.max, IntKind.signed, IntKind.bits] using w2) W hd0).mono fun e W' ⟨he, hb⟩ => ?_
  subst he
  exact ⟨_, rfl, law_post rfl hW' laidOut (by rw [Try.params7]; simp only [List.mem_cons, List.not_mem_nil, or_false]; rintro t (rfl | rfl | rfl) <;> exact ⟨by kernel_rfl, of_decide_eq_true (by kernel_rfl)⟩) (by kernel_rfl) Try.underlying4 rfl hb⟩

theorem over : Rows.workqOnceRow.holds Try.pinned (OpenSpec.ofChange Rows.workqOnceSpec) :=
  OpenClaim.holds_of_wide 7 Try.f7 rfl rfl rfl rfl rfl rfl rfl ⟨rfl, rfl, rfl, rfl, rfl⟩ rfl rfl rfl rfl rfl (by kernel_rfl) Try.func7 (by kernel_rfl)
    (of_decide_eq_true (by kernel_rfl)) (by unfold Func.isWrapper; first | (rw [if_pos (by decide +kernel)]; kernel_rfl) | (rw [if_neg (by decide +kernel)]; exact ⟨rfl, rfl⟩))
    (fun os started H enc _ => lifted os started H enc)
theorem proved : Rows.WorkqOnceSaid := over
end workqOnce
theorem workqOnce_holds : Rows.WorkqOnceSaid := workqOnce.proved
#print axioms workqOnce_holds

end Go.Proofs.Ytemeedfldapcjaa
