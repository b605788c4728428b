/- Layer 5 (blocks): both logs tell the same; what must be whatever is asked. -/
import Derived.Test.YtmkfiecdgghceaaC9
import Derived.Test.YtmkfiecdgghceaaRegV
import Derived.Lib.SlBytesConst
namespace Go.Proofs.Ytmkfiecdgghceaa
open Go.RowKit
set_option linter.unusedVariables false
set_option linter.unusedSimpArgs false


theorem exec_eqlText {o : Oper} {a : Act} {w : World} {x y : Tmp} {l m : Bs} (hop : o.op = .binOp .eql 9 (.tmp x) (.tmp y) 9) (hx : a.tmps[x]?.getD undef = .string ⟨l.toArray⟩) (hy : a.tmps[y]?.getD undef = .string ⟨m.toArray⟩) : (execOp a.eval o).run Try.prog w = .ok (.value (.bool (decide (l = m)))) w := by
  have e : ((⟨l.toArray⟩ : ByteArray) == ⟨m.toArray⟩) = decide (l = m) := by
    rw [beq_toListBytes, ByteArray.toList_eq, ByteArray.toList_eq, Bool.eq_iff_iff]
    simp
  simp [execOp, hop, hx, hy, go_sem, Result.andThen, e]
  rw [Bool.eq_iff_iff]
  simp

set_option maxRecDepth 100000 in
set_option maxHeartbeats 4000000 in
theorem same_sim (w : World) (B p q most : Nat) (hs : ∃ n bs last, Sim w B p q n bs last most) : Calls Try.prog 26 #[.pointer (some ⟨p, 0, none⟩), .pointer (some ⟨q, 0, none⟩)] w fun e w' => e = .returned (.bool true) ∧ Below w.heap.size w w' := by
  obtain ⟨n, bs, last, v, u, hL, hR⟩ := hs
  obtain ⟨rs, hrs⟩ := parsed_exists bs
  have HRS := Lib.hid hrs
  have HNL := Lib.hid hL.row.1
  have HL := Lib.hid (hL.below (Below.refl _ w).drew)
  have HR := Lib.hid (hR.below (Below.refl _ w).drew)
  have HB := Lib.hid (Below.refl w.heap.size w).drew
  have hn := hL.hn
  have hm := hL.hm
  have HN4 := Lib.hid (show rs.length ≤ 4096 by
    obtain ⟨g, rest, e, _⟩ := hrs
    have h1 := count_le g 0
    have h2 : (encs rs 0).length ≤ bs.length := by rw [e]; simp
    have := hL.row.1
    omega)
  clear hL hR hrs
  go_enter Try.func26, Try.ntmps26
  go_wp2
  refine wp_region_V (fun w' => (True))
    [(true, 0), (true, 3), (false, 1), (true, 2), (false, 4), (true, 5), (true, 6), (true, 7), (true, 8), (true, 10), (false, 9), (false, 11), (true, 12), (true, 13), (true, 14), (true, 15), (true, 17), (false, 16), (false, 18), (false, 19), (true, 20), (true, 21)] (by kernel_rfl) (by kernel_rfl) rfl (by kernel_rfl) ?_ ?_
  · exact trivial
  simp only [List.filterMap_cons, List.filterMap_nil, List.getElem?_cons_succ, List.getElem?_cons_zero, Option.map_some]
  apply wpSeqV_takeK _ (by first | rfl | (simp [Region.wanted, yielded]; done))
  · rintro w' _
    go_simp
    try rfl
  intro K hK
  go_simp
  refine hK _ ?_
  clear hK K
  apply wpSeqV_takeK _ (by first | rfl | (simp [Region.wanted, yielded]; done))
  · rintro w' _
    go_simp
    try rfl
  intro K hK
  go_simp
  refine hK _ ?_
  clear hK K
  refine wpSeqV_alone ?_
  focus (go_wp2_with (go_at_call 27; refine (bytes_any _ B p v n bs last most HL.out).mono ?_; rintro e w1 ⟨u1, rfl, ho, hb⟩; obtain ⟨a1, c1, rfl⟩ := ho.lv; have I1 := Lib.hid ho.isB; have HL := Lib.hid (HL.out.below hb); have HR := Lib.hid (HR.out.below hb); have HB := Lib.hid (HB.out.trans (hb.mono HB.out.size)); clear ho hb))
  refine QV_normal (fun w' => (IsB w' (.slice a1 bs.length c1) bs) ∧ (True)) (by rintro w' ⟨s0, _⟩; exact trivial) ⟨by first | exact I1.out | exact I2.out, trivial⟩ (fun _ => ?_)
  refine wpSeqV_takeK (.string ⟨bs.toArray⟩) (by first | rfl | (simp [Region.wanted, yielded]; done)) ?_ ?_
  · rintro w' ⟨s0, _⟩
    exact exec_text rfl rfl s0
  intro K hK
  go_simp
  refine hK _ ?_
  clear hK K
  refine wpSeqV_alone ?_
  focus (go_wp2_with (go_at_call 36; refine (bytesR_any _ B q u bs (last * 64) most HR.out).mono ?_; rintro e w2 ⟨u2, rfl, ho, hb⟩; obtain ⟨a2, c2, rfl⟩ := ho.lv; have I2 := Lib.hid ho.isB; have I1 := Lib.hid (I1.out.below hb); have HL := Lib.hid (HL.out.below hb); have HR := Lib.hid (HR.out.below hb); have HB := Lib.hid (HB.out.trans (hb.mono HB.out.size)); clear ho hb))
  refine QV_normal (fun w' => (IsB w' (.slice a1 bs.length c1) bs) ∧ (IsB w' (.slice a2 bs.length c2) bs) ∧ (True)) (by rintro w' ⟨s0, s1, _⟩; exact ⟨s0, trivial⟩) ⟨by first | exact I1.out | exact I2.out, by first | exact I1.out | exact I2.out, trivial⟩ (fun _ => ?_)
  refine wpSeqV_takeK (.string ⟨bs.toArray⟩) (by first | rfl | (simp [Region.wanted, yielded]; done)) ?_ ?_
  · rintro w' ⟨s0, s1, _⟩
    exact exec_text rfl rfl s1
  intro K hK
  go_simp
  refine hK _ ?_
  clear hK K
  refine wpSeqV_takeK (.bool true) (by first | rfl | (simp [Region.wanted, yielded]; done)) ?_ ?_
  · rintro w' ⟨s0, s1, _⟩
    (rw [exec_eqlText (l := bs) (m := bs) rfl rfl rfl]; simp)
  intro K hK
  go_simp
  refine hK _ ?_
  clear hK K
  apply wpSeqV_takeK _ (by first | rfl | (simp [Region.wanted, yielded]; done))
  · rintro w' ⟨s0, s1, _⟩
    go_simp
    try rfl
  intro K hK
  go_simp
  refine hK _ ?_
  clear hK K
  apply wpSeqV_takeK _ (by first | rfl | (simp [Region.wanted, yielded]; done))
  · rintro w' ⟨s0, s1, _⟩
    go_simp
    try rfl
  intro K hK
  go_simp
  refine hK _ ?_
  clear hK K
  apply wpSeqV_takeK _ (by first | rfl | (simp [Region.wanted, yielded]; done))
  · rintro w' ⟨s0, s1, _⟩
    go_simp
    try rfl
  intro K hK
  go_simp
  refine hK _ ?_
  clear hK K
  refine wpSeqV_alone ?_
  focus (go_wp2_with (go_at_call 24; refine (free_any _ B p v n bs last most HL.out).mono ?_; rintro e w3 ⟨rfl, hb⟩; have I2 := Lib.hid (I2.out.below hb); have I1 := Lib.hid (I1.out.below hb); have HL := Lib.hid (HL.out.below hb); have HR := Lib.hid (HR.out.below hb); have HB := Lib.hid (HB.out.trans (hb.mono HB.out.size)); clear hb))
  refine QV_normal (fun w' => (IsB w' (.slice a1 bs.length c1) bs) ∧ (IsB w' (.slice a2 bs.length c2) bs) ∧ (True)) (by rintro w' ⟨s0, s1, _⟩; exact ⟨s0, s1, trivial⟩) ⟨by first | exact I1.out | exact I2.out, by first | exact I1.out | exact I2.out, trivial⟩ (fun _ => ?_)
  refine wpSeqV_alone ?_
  focus (go_wp2_with (go_at_call 37; refine (freeR_any _ B q u n bs (last * 64) most HR.out HNL.out).mono ?_; rintro e w4 ⟨rfl, hb⟩; have I2 := Lib.hid (I2.out.below hb); have I1 := Lib.hid (I1.out.below hb); have HL := Lib.hid (HL.out.below hb); have HR := Lib.hid (HR.out.below hb); have HB := Lib.hid (HB.out.trans (hb.mono HB.out.size)); clear hb))
  refine QV_normal (fun w' => (IsB w' (.slice a1 bs.length c1) bs) ∧ (IsB w' (.slice a2 bs.length c2) bs) ∧ (True)) (by rintro w' ⟨s0, s1, _⟩; exact ⟨s0, s1, trivial⟩) ⟨by first | exact I1.out | exact I2.out, by first | exact I1.out | exact I2.out, trivial⟩ (fun _ => ?_)
  apply wpSeqV_takeK _ (by first | rfl | (simp [Region.wanted, yielded]; done))
  · rintro w' ⟨s0, s1, _⟩
    go_simp
    try rfl
  intro K hK
  go_simp
  refine hK _ ?_
  clear hK K
  apply wpSeqV_takeK _ (by first | rfl | (simp [Region.wanted, yielded]; done))
  · rintro w' ⟨s0, s1, _⟩
    go_simp
    try rfl
  intro K hK
  go_simp
  refine hK _ ?_
  clear hK K
  apply wpSeqV_takeK _ (by first | rfl | (simp [Region.wanted, yielded]; done))
  · rintro w' ⟨s0, s1, _⟩
    go_simp
    try rfl
  intro K hK
  go_simp
  refine hK _ ?_
  clear hK K
  apply wpSeqV_takeK _ (by first | rfl | (simp [Region.wanted, yielded]; done))
  · rintro w' ⟨s0, s1, _⟩
    go_simp
    try rfl
  intro K hK
  go_simp
  refine hK _ ?_
  clear hK K
  apply wpSeqV_takeK _ (by first | rfl | (simp [Region.wanted, yielded]; done))
  · rintro w' ⟨s0, s1, _⟩
    go_simp
    try rfl
  intro K hK
  go_simp
  refine hK _ ?_
  clear hK K
  refine wpSeqV_alone ?_
  focus (go_wp2_with (go_at_call 19; refine (records_log _ B p v n bs last most rs HL.out HRS.out).mono ?_; rintro e w5 ⟨u5, rfl, ho, hb⟩; obtain ⟨a5, c5, rfl⟩ := ho.lv; have R5 := Lib.hid ho.rd.1; have I2 := Lib.hid (I2.out.below hb); have I1 := Lib.hid (I1.out.below hb); have HL := Lib.hid (HL.out.below hb); have HR := Lib.hid (HR.out.below hb); have HB := Lib.hid (HB.out.trans (hb.mono HB.out.size)); clear ho hb))
  refine QV_normal (fun w' => (IsB w' (.slice a1 bs.length c1) bs) ∧ (IsB w' (.slice a2 bs.length c2) bs) ∧ (True)) (by rintro w' ⟨s0, s1, _⟩; exact ⟨s0, s1, trivial⟩) ⟨by first | exact I1.out | exact I2.out, by first | exact I1.out | exact I2.out, trivial⟩ (fun _ => ?_)
  refine wpSeqV_alone ?_
  focus (go_wp2_with (go_at_call 38; refine (recordsR_any _ B q u n bs (last * 64) most rs HR.out HNL.out HRS.out).mono ?_; rintro e w6 ⟨u6, rfl, ho, hb⟩; obtain ⟨a6, c6, rfl⟩ := ho.lv; have R6 := Lib.hid ho.rd.1; have R5 := Lib.hid (R5.out.below hb); have I2 := Lib.hid (I2.out.below hb); have I1 := Lib.hid (I1.out.below hb); have HL := Lib.hid (HL.out.below hb); have HR := Lib.hid (HR.out.below hb); have HB := Lib.hid (HB.out.trans (hb.mono HB.out.size)); clear ho hb))
  refine QV_normal (fun w' => (IsB w' (.slice a1 bs.length c1) bs) ∧ (IsB w' (.slice a2 bs.length c2) bs) ∧ (True)) (by rintro w' ⟨s0, s1, _⟩; exact ⟨s0, s1, trivial⟩) ⟨by first | exact I1.out | exact I2.out, by first | exact I1.out | exact I2.out, trivial⟩ (fun _ => ?_)
  refine wpSeqV_alone ?_
  focus (go_wp2_with (go_at_call 25; refine (same_any rs rs rs.length rs.length rfl rfl _ _ _ _ _ (by have := HN4.out; omega) (by have := HN4.out; omega) R5.out R6.out).mono ?_; rintro e w7 ⟨rfl, hb⟩; rw [decide_eq_true (rfl : rs = rs)]; have I2 := Lib.hid (I2.out.below hb); have I1 := Lib.hid (I1.out.below hb); have HB := Lib.hid (HB.out.trans (hb.mono HB.out.size)); clear hb))
  refine QV_normal (fun w' => (IsB w' (.slice a1 bs.length c1) bs) ∧ (IsB w' (.slice a2 bs.length c2) bs) ∧ (True)) (by rintro w' ⟨s0, s1, _⟩; exact ⟨s0, s1, trivial⟩) ⟨by first | exact I1.out | exact I2.out, by first | exact I1.out | exact I2.out, trivial⟩ (fun _ => ?_)
  apply wpSeqV_takeK _ (by first | rfl | (simp [Region.wanted, yielded]; done))
  · rintro w' ⟨s0, s1, _⟩
    go_simp
    try rfl
  intro K hK
  go_simp
  refine hK _ ?_
  clear hK K
  apply wpSeqV_takeK _ (by first | rfl | (simp [Region.wanted, yielded]; done))
  · rintro w' ⟨s0, s1, _⟩
    go_simp
    try rfl
  intro K hK
  go_simp
  refine hK _ ?_
  clear hK K
  refine wpSeqV_end ?_
  go_wp2
  go_ret
  exact ⟨rfl, HB.out⟩

theorem adler_wiki : adler [87, 105, 107, 105, 112, 101, 100, 105, 97] = 300286872 := by decide

theorem alloc_bytes (w : World) (l : Bs) (o : Nat × Nat) (k : Nat) (hk : k < l.length) : (w.alloc (.cells ((cellsU l).toArray) 5 o)).cell? ⟨w.heap.size, 0 + k, none⟩ = some (.int .u8 (l[k].toNat : Int)) := by
  simp only [World.cell?, heap_alloc_eq, Nat.zero_add]
  simp [cellsU, hk]
theorem cells_abc : cellsU [97, 98, 99] = [.int .u8 97, .int .u8 98, .int .u8 99] := rfl
theorem cells_wiki : cellsU [87, 105, 107, 105, 112, 101, 100, 105, 97] = [.int .u8 87, .int .u8 105, .int .u8 107, .int .u8 105, .int .u8 112, .int .u8 101, .int .u8 100, .int .u8 105, .int .u8 97] := rfl

theorem live_append (w w1 : World) (p : Nat) (HL : LogAt w1 w.heap.size p (.slice none 0 0) 0 [] 0 (Int.toNat 4)) (HB : Below w.heap.size w w1) :
    Calls Try.prog 17 #[.pointer (some ⟨p, 0, none⟩), .slice (some ⟨w1.heap.size, 0, none⟩) 3 3] (w1.alloc (.cells #[.int .u8 97, .int .u8 98, .int .u8 99] 5 (3, 4)))
      fun e w2 => e = .returned (.int .i64 0) ∧ ∃ u, LogAt w2 w.heap.size p u 1 (([] : Bs) ++ recd [97, 98, 99] 1) 0 4 ∧ Below w.heap.size w w2 := by
  refine (append_gen _ w.heap.size p (.slice none 0 0) 0 [] 0 4 [] (HL.below ((Below.refl _ _).alloc (Nat.le_refl _) _)) parsed_nil _ [97, 98, 99] (IsB.src (.inr ⟨_, 0, 3, rfl, by decide, by unfold maxLen; decide, fun k hk => alloc_bytes w1 [97, 98, 99] (3, 4) k hk⟩)) (by unfold maxLen; decide)).mono ?_
  rintro e w2 ⟨rfl, ⟨u2, hl2⟩, hk2⟩
  refine ⟨by rw [show (appF 4 0 [] ([] : List Bs).length [97, 98, 99]).1 = 0 by decide], u2, hl2, (HB.alloc HB.size (.cells #[.int .u8 97, .int .u8 98, .int .u8 99] 5 (3, 4))).trans ⟨hk2.os, hk2.tape, hk2.output, hk2.size, fun k hk => hk2.block k ?_ ?_⟩⟩
  · have := HB.size
    simp
    omega
  · rintro (rfl | h)
    · have := HL.base; omega
    · simp [Value.ownBlock] at h
theorem live_crash (w w2 : World) (p : Nat) (u : Value) (HL : LogAt w2 w.heap.size p u 1 (([] : Bs) ++ recd [97, 98, 99] 1) 0 4) (HB : Below w.heap.size w w2) :
    Calls Try.prog 20 #[.pointer (some ⟨p, 0, none⟩), .int .i64 0, .int .i64 0] w2
      fun e w3 => e = .returned (.int .i64 0) ∧ ∃ u, LogAt w3 w.heap.size p u 0 [] 0 4 ∧ Below w.heap.size w w3 := by
  have HC : crF 1 0 (([] : Bs) ++ recd [97, 98, 99] 1) 0 0 = (0, 0, [], 0) := by decide
  refine (crash_gen w2 w.heap.size p u 1 _ 0 4 HL 0 0 (by decide)).mono ?_
  rw [HC]
  rintro e w3 ⟨rfl, ⟨u3, h3⟩, hk⟩
  refine ⟨rfl, u3, h3, HB.trans ⟨hk.os, hk.tape, hk.output, hk.size, fun k hk' => hk.block k (by have := HB.size; omega) ?_⟩⟩
  rintro (rfl | h)
  · have := HL.base; omega
  · have := HL.lt.2 k h; omega

set_option maxRecDepth 100000 in
set_option maxHeartbeats 4000000 in
theorem live_any (w : World) : Calls Try.prog 11 #[] w fun e w' => e = .returned (.bool true) ∧ Below w.heap.size w w' := by
  have kc := fun (w : World) (C : Array Value) (n c : Nat) => Lib.run_convert_bytes_const (P := Try.prog) w 22 5 C n c und_B und_b
  have H57 := Lib.hid (show need 57 = 2 by decide)
  have HP1 := Lib.hid (show Parsed (([] : Bs) ++ recd [97, 98, 99] 1) [[97, 98, 99]] from parsed_encs (rs := [[97, 98, 99]]) (fun r h => by simp at h; subst h; decide))
  have HW := Lib.hid adler_wiki
  go_enter Try.func11, Try.ntmps11
  go_wp2_with (first | (go_at_call 16; refine (new_any 4 w (by omega) (by omega)).mono ?_; rintro e w1 ⟨p, rfl, hl, hb⟩; have HL := Lib.hid hl; have HB := Lib.hid hb; clear hl hb) | (go_at_call 17; refine (live_append w w1 p HL.out HB.out).mono ?_; rintro e w2 ⟨rfl, u2, hl2, hb2⟩; have HL2 := Lib.hid hl2; have HB2 := Lib.hid hb2; clear hl2 hb2) | (go_at_call 20; refine (live_crash w _ p _ HL2.out HB2.out).mono ?_; rintro e w4 ⟨rfl, u3, hl3, hb3⟩; have HL3 := Lib.hid hl3; have HB3 := Lib.hid hb3; clear hl3 hb3 HL2 HB2) | (go_at_call 19; refine (records_log _ _ p _ 1 _ 0 4 _ HL2.out HP1.out).mono ?_; rintro e w3 ⟨v3, rfl, ho, hb⟩; obtain ⟨a3, c3, rfl⟩ := ho.lv; have HL2 := Lib.hid (HL2.out.below hb); have HB2 := Lib.hid (HB2.out.trans (hb.mono HB2.out.size)); clear ho hb) | (go_at_call 19; refine (records_log _ _ p _ 0 [] 0 4 [] HL3.out parsed_nil).mono ?_; rintro e w5 ⟨v5, rfl, ho, hb⟩; obtain ⟨a5, c5, rfl⟩ := ho.lv; have HL3 := Lib.hid (HL3.out.below hb); have HB3 := Lib.hid (HB3.out.trans (hb.mono HB3.out.size)); clear ho hb) | (go_at_call 24; refine (free_any _ _ p _ 0 [] 0 4 HL3.out).mono ?_; rintro e w6 ⟨rfl, hb⟩; have HB3 := Lib.hid (HB3.out.trans (hb.mono HB3.out.size)); clear hb) | (go_at_call 14; refine (need_any 57 _).mono ?_; rintro e w7 ⟨rfl, rfl⟩; rw [H57.out]) | (go_at_call 12; refine (sum_any [87, 105, 107, 105, 112, 101, 100, 105, 97] _ 9 _ (by decide) (.inr ⟨_, 0, rfl, fun k hk => alloc_bytes _ [87, 105, 107, 105, 112, 101, 100, 105, 97] (9, 10) k hk⟩)).mono ?_; rintro e w8 ⟨rfl, rfl⟩; rw [HW.out]))
  go_ret
  exact ⟨rfl, HB3.out.alloc HB3.out.size _⟩

end Go.Proofs.Ytmkfiecdgghceaa
