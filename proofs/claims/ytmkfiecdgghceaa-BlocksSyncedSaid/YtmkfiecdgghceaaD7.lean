/- Layer 5 (blocks): BlocksSynced: the walk. -/
import Derived.Test.YtmkfiecdgghceaaD5
import Derived.Test.YtmkfiecdgghceaaD9
namespace Go.Proofs.Ytmkfiecdgghceaa
open Go.RowKit
set_option linter.unusedVariables false
set_option linter.unusedSimpArgs false

/-- as append_gen; the row's block is the old one or new -/
theorem append_gen2 (w : World) (B p : Nat) (v : Value) (n : Nat) (bs : Bs) (last most : Nat) (h : LogAt w B p v n bs last most) (x : Value) (l : Bs) (hx : Src w x l) (hxl : l.length ≤ maxLen) :
    Calls Try.prog 17 #[.pointer (some ⟨p, 0, none⟩), x] w fun e w' => (∃ r, e = .returned (.int .i64 r)) ∧ (∃ u n' y, LogAt w' B p u n' (bs ++ y) last most ∧ ∀ k, u.ownBlock = some k → v.ownBlock = some k ∨ w.heap.size ≤ k) ∧ Keeps (fun i => i = p ∨ v.ownBlock = some i) w w' := by
  obtain ⟨rs, hrs⟩ := parsed_exists bs
  by_cases hb : l.length < 1 ∨ 1024 < l.length
  · obtain ⟨a, c, rfl, _⟩ := hx.rd
    refine (append_bad w p a l.length c hxl hb).mono ?_
    rintro e w' ⟨rfl, rfl⟩
    exact ⟨⟨_, rfl⟩, ⟨v, n, [], by rw [List.append_nil]; exact h, fun k hk => .inl hk⟩, Keeps.refl _ _⟩
  · by_cases hf : most - n < needN l.length
    · obtain ⟨a, c, rfl, _⟩ := hx.rd
      refine (append_full w B p v n bs last most h a l.length c (by omega) (by omega) hf).mono ?_
      rintro e w' ⟨rfl, hbl⟩
      exact ⟨⟨_, rfl⟩, ⟨v, n, [], by rw [List.append_nil]; exact h.below hbl, fun k hk => .inl hk⟩, Keeps.of_below hbl⟩
    · obtain ⟨a, c, rfl, h1, h2, h3⟩ := hx
      obtain ⟨b, o, rfl, h4⟩ := h3 (by omega)
      refine (append_any w B p v n bs last most rs h hrs l b o c (by omega) (by omega) h1 h2 h4 (by omega)).mono ?_
      rintro e w' ⟨rfl, u, hl, hn, hk⟩
      exact ⟨⟨_, rfl⟩, ⟨u, _, _, hl, hn⟩, hk⟩

theorem crash_pre {bs y : Bs} {n last : Nat} {keep torn : Int} (h : bs.length = last * 64) : ∃ z, (crashB (bs ++ y) n last keep torn).2 = bs ++ z := by
  have hc : last ≤ crashN n last keep := by unfold crashN; omega
  unfold crashB
  split
  · refine ⟨y.take (crashN n last keep * 64 + torn.toNat - bs.length) ++ List.replicate (64 - torn.toNat) 0, ?_⟩
    simp only
    rw [List.take_append, List.take_of_length_le (by omega), List.append_assoc]
  · refine ⟨y.take (crashN n last keep * 64 - bs.length), ?_⟩
    simp only
    rw [List.take_append, List.take_of_length_le (by omega)]

/-- what the loop keeps -/
structure Wrote (w0 w5 : World) (B1 p : Nat) (bs : Bs) (last most : Nat) (wr : World) : Prop where
  log : ∃ v n y, LogAt wr w0.heap.size p v n (bs ++ y) last most ∧ ∀ k, v.ownBlock = some k → k < B1 ∨ w5.heap.size ≤ k
  row : ∀ k, B1 ≤ k → k < w5.heap.size → wr.heap[k]? = w5.heap[k]?
  below : Below w0.heap.size w0 wr
  size : w5.heap.size ≤ wr.heap.size

theorem Wrote.step {w0 w5 wr w' : World} {B1 p : Nat} {bs : Bs} {last most : Nat} (hp : p < B1) {v v' : Value} {n n' : Nat} {y y' : Bs} (h : Wrote w0 w5 B1 p bs last most wr) (hl : LogAt wr w0.heap.size p v n (bs ++ y) last most) (hv : ∀ k, v.ownBlock = some k → k < B1 ∨ w5.heap.size ≤ k)
    (hl' : LogAt w' w0.heap.size p v' n' (bs ++ y') last most) (hn : ∀ k, v'.ownBlock = some k → v.ownBlock = some k ∨ wr.heap.size ≤ k) (hk : Keeps (fun i => i = p ∨ v.ownBlock = some i) wr w') : Wrote w0 w5 B1 p bs last most w' :=
  ⟨⟨v', n', y', hl', fun k hk' => by
      rcases hn k hk' with h1 | h1
      · exact hv k h1
      · exact .inr (Nat.le_trans h.size h1)⟩,
    fun k h1 h2 => (hk.block k (Nat.lt_of_lt_of_le h2 h.size) (fun hf => by
      rcases hf with rfl | hf
      · omega
      · rcases hv k hf with h3 | h3 <;> omega)).trans (h.row k h1 h2),
    below_log h.below hl hk, Nat.le_trans h.size hk.size⟩
--WALK
theorem text_pre (bs zz : Bs) : ((⟨(bs ++ zz).toArray⟩ : ByteArray).extract 0 bs.length).toList = bs := by
  rw [ByteArray.toList_eq, ByteArray.data_extract]
  simp

def synced0 (w : World) (kind keep torn : Int) (z : Value) : World := w.alloc (.cells #[.int .i64 kind, .int .i64 keep, .int .i64 torn, z] 30)

set_option maxRecDepth 100000 in
set_option maxHeartbeats 4000000 in
theorem synced_walk (x y : Value) (n m : Nat) (kind keep torn : Int) (z : Value) (w : World) (hkeep : keep ≤ 9223372036854775807) (h : ArgD w w.heap.size x n) (hy : ArgD w w.heap.size y m) :
    Calls Try.prog 7 #[x, y, .agg #[.int .i64 kind, .int .i64 keep, .int .i64 torn, z]] w fun e w' => e = .returned (.bool true) ∧ Below w.heap.size w w' := by
  obtain ⟨w0, hw0⟩ : ∃ w0, w0 = w.alloc (.cells #[.int .i64 kind, .int .i64 keep, .int .i64 torn, z] 30) := ⟨_, rfl⟩
  have hb0 : Below w.heap.size w w0 := hw0 ▸ (Below.refl _ w).alloc (Nat.le_refl _) _
  have hsz : w.heap.size < w0.heap.size := by rw [hw0]; simp
  have hbx : w0.heap[w.heap.size]? = some (.cells #[.int .i64 kind, .int .i64 keep, .int .i64 torn, z] 30 (0, 0)) := by rw [hw0]; exact heap_alloc_eq
  have hx0 := (h.kept (Keeps.of_below' hb0) (Nat.le_refl _)).mono (Nat.le_of_lt hsz)
  have hy0 := (hy.kept (Keeps.of_below' hb0) (Nat.le_refl _)).mono (Nat.le_of_lt hsz)
  have H := play_any 23 (by omega) (by omega) x n w0 hx0
  rw [show ((23 : Int).tmod 24 + 1).toNat = 24 by decide] at H
  rw [show Calls Try.prog 22 #[.int .u8 23, x] w0 = Calls Try.prog 22 #[.int .u8 23, x] (w.alloc (.cells #[.int .i64 kind, .int .i64 keep, .int .i64 torn, z] 30)) by rw [hw0]] at H
  have HB0 := Lib.hid hb0
  have HSZ := Lib.hid hsz
  have HBX := Lib.hid hbx
  have HY0 := Lib.hid hy0
  obtain ⟨ao, cx, rfl, _⟩ := h
  obtain ⟨ay, cy, rfl, hc1, hc2, _⟩ := hy
  unfold maxLen at hc2
  have hlen : m ≤ 9223372036854775807 := by omega
  clear hw0 hb0 hsz hbx hx0 hy0
  go_enter Try.func7, Try.ntmps7
  go_wp2_with (first | (go_at_call 22; refine H.mono ?_; clear H; rintro e w1 ⟨p, q, m1, bs, last, rfl, hb, hs⟩; have HB := Lib.hid hb; obtain ⟨v, u, hL, _⟩ := hs; have HL := Lib.hid hL; clear hb hL; obtain ⟨rs, hrs⟩ := parsed_exists bs; have HRS := Lib.hid hrs; clear hrs) | (go_at_call 11; refine (live_any _).mono ?_; rintro e w2 ⟨rfl, hb⟩; have HB := Lib.hid (HB.out.trans (hb.mono HB.out.size)); have HL := Lib.hid (HL.out.below hb); clear hb) | (go_at_call 18; refine (sync_any _ _ p v m1 bs last 24 HL.out).mono ?_; rintro e w3 ⟨rfl, hl, hk⟩; have HB := Lib.hid (below_log HB.out HL.out (hk.mono fun i _ e => .inl e)); have HL := Lib.hid hl; clear hl hk))
  have HL := Lib.hid (HL.out.below (Below.refl _ w3).drew)
  have HB := Lib.hid HB.out.drew
  have HBL := Lib.hid HL.out.row.1
  refine wp_region_V (fun w' => (True))
    [(true, 0), (true, 2), (false, 1), (false, 3), (true, 4), (true, 5), (true, 6)] (by kernel_rfl) (by kernel_rfl) rfl (by kernel_rfl) ?_ ?_
  · exact trivial
  simp only [List.filterMap_cons, List.filterMap_nil, List.getElem?_cons_succ, List.getElem?_cons_zero, Option.map_some]
  apply wpSeqV_takeK _ (by first | rfl | (simp [Region.wanted, yielded]; done))
  · rintro w' _
    go_simp
    try rfl
  intro K hK
  go_simp
  refine hK _ ?_
  clear hK K
  apply wpSeqV_takeK _ (by first | rfl | (simp [Region.wanted, yielded]; done))
  · rintro w' _
    go_simp
    try rfl
  intro K hK
  go_simp
  refine hK _ ?_
  clear hK K
  refine wpSeqV_alone ?_
  focus (go_wp2_with (go_at_call 19; refine (records_log _ _ p _ _ _ _ 24 rs HL.out HRS.out).mono ?_; rintro e w4 ⟨u4, rfl, ho, hb⟩; obtain ⟨a4, c4, rfl⟩ := ho.lv; have HO := Lib.hid ho; have HP := Lib.hid HL.out.lt; have HLb := Lib.hid (HL.out.below hb); have HBb := Lib.hid (HB.out.trans (hb.mono HB.out.size)); clear ho hb HL HB))
  refine QV_normal (fun w' => (True)) (by rintro w' _; exact trivial) trivial (fun _ => ?_)
  refine wpSeqV_alone ?_
  focus (go_wp2_with (go_at_call 27; refine (bytes_any _ _ p _ _ _ _ 24 HLb.out).mono ?_; rintro e w5 ⟨u5, rfl, ho, hb⟩; obtain ⟨a5, c5, rfl⟩ := ho.lv; have I2 := Lib.hid ho.isB; have HO5 := Lib.hid (HO.out.below hb); have HL5 := Lib.hid (HLb.out.below hb); have HB5 := Lib.hid (HBb.out.trans (hb.mono HBb.out.size)); clear ho hb HLb HBb HO))
  refine QV_normal (fun w' => (IsB w' (.slice a5 bs.length c5) bs) ∧ (True)) (by rintro w' ⟨s0, _⟩; exact trivial) ⟨by exact I2.out, trivial⟩ (fun _ => ?_)
  refine wpSeqV_takeK (.string ⟨bs.toArray⟩) (by first | rfl | (simp [Region.wanted, yielded]; done)) ?_ ?_
  · rintro w' ⟨s0, _⟩
    exact exec_text rfl rfl s0
  intro K hK
  go_simp
  refine hK _ ?_
  clear hK K
  apply wpSeqV_takeK _ (by first | rfl | (simp [Region.wanted, yielded]; done))
  · rintro w' ⟨s0, _⟩
    go_simp
    try rfl
  intro K hK
  go_simp
  refine hK _ ?_
  clear hK K
  apply wpSeqV_takeK _ (by first | rfl | (simp [Region.wanted, yielded]; done))
  · rintro w' ⟨s0, _⟩
    go_simp
    try rfl
  intro K hK
  go_simp
  refine hK _ ?_
  clear hK K
  refine wpSeqV_end ?_
  generalize hB1 : w3.drew.heap.size = B1 at *
  have hp : p < B1 := HP.out.1
  have HW := Lib.hid (show Wrote w0 w5 B1 p bs m1 24 w5 from ⟨⟨v, m1, [], by rw [List.append_nil]; exact HL5.out, fun k hk => .inl (HP.out.2 k hk).2⟩, fun _ _ _ => rfl, HB5.out, Nat.le_refl _⟩)
  clear hB1 HL5 HB5
  go_wp2_with fail
  go_loopw [12] (fun i wr => ∃ j : Nat, j ≤ 20 ∧ j ≤ m ∧ i = .int .i64 j ∧ Hid (Wrote w0 w5 B1 p bs m1 24 wr)) (fun i _ => 20 - (intOf i).toNat)
  case atStart => exact ⟨0, by omega, by omega, rfl, HW⟩
  case round =>
    obtain ⟨j, hj, hjd, rfl, hW⟩ := hrel
    by_cases hlt : j < m ∧ j < 20
    · obtain ⟨hl1, hl2⟩ := hlt
      have hyr := HY0.out.kept (Keeps.of_below' hW.out.below) (Nat.le_refl _)
      obtain ⟨ay', cy', hv, _, _, hcell⟩ := hyr
      simp only [Value.slice.injEq, true_and] at hv
      obtain ⟨rfl, rfl⟩ := hv
      obtain ⟨a, rfl, hab, hcell⟩ := hcell (by omega)
      obtain ⟨kd, kp, tn, yv, l, hc, hkeep', hyv⟩ := hcell j hl1
      have hl1' : (j : Int) < m := by omega
      have hl2' : (j : Int) < 20 := by omega
      generalize ha : a.add (j * 4) = A at *
      have x3 := hc 3 (by omega)
      obtain ⟨ya, yc, rfl, hy1, hy2⟩ := hyv.lv
      simp [Addr.add] at x3
      subst ha
      have HYL := Lib.hid hyv
      clear hcell hc hab hyv
      have hyl : l.length ≤ maxLen := Nat.le_trans hy1 hy2
      have HML := Lib.hid hyl
      clear hyl hy1 hy2
      by_cases hll : l.length ≤ 200
      · have t1 : (l.length : Int) ≤ 200 := by omega
        have HS := Lib.hid HYL.out.isB
        go_wp2_with fail
        obtain ⟨⟨vw, nw, yw, hLw, hvw⟩, _, _, _⟩ := hW.out
        refine (append_gen2 wr _ p vw nw _ m1 24 hLw _ l HS.out HML.out).mono ?_
        rintro e w6 ⟨⟨r6, rfl⟩, ⟨u6, n6, y6, hl6, hn6⟩, hk6⟩
        have HW6 := Lib.hid (hW.out.step (y' := yw ++ y6) hp hLw hvw (by rw [← List.append_assoc]; exact hl6) hn6 hk6)
        clear hl6 hn6 hk6 hLw hvw x3
        go_wp2
        go_roundw
        case rel => exact ⟨j + 1, by omega, by omega, by simp, HW6⟩
        case measure => simp [intOf]; omega
      · have t1 : ¬ (l.length : Int) ≤ 200 := by omega
        go_wp2
        go_roundw
        case rel => exact ⟨j + 1, by omega, by omega, by simp, hW⟩
        case measure => simp [intOf]; omega
    · have hW' := hW.out
      obtain ⟨⟨vw, nw, yw, hLw, hvw⟩, hrow, hbw, hszw⟩ := hW'
      have HLW := Lib.hid hLw
      have HVW := Lib.hid hvw
      have HROW := Lib.hid hrow
      have HBW := Lib.hid hbw
      have HSW := Lib.hid hszw
      obtain ⟨ra, hra⟩ := parsed_exists (bs ++ yw)
      have HRA := Lib.hid hra
      clear hLw hvw hrow hbw hszw hra hW HW HY0
      by_cases hl1 : j < m
      · have hl1' : (j : Int) < m := by omega
        have hl2' : ¬ (j : Int) < 20 := by omega
        go_wp2_with (first | (go_at_call 19; refine (records_log _ _ p _ _ _ _ 24 ra HLW.out HRA.out).mono ?_; rintro e w7 ⟨u7, rfl, ho, hb⟩; obtain ⟨a7, c7, rfl⟩ := ho.lv; have HO7 := Lib.hid ho; have HLT := Lib.hid HLW.out.lt; have HL7 := Lib.hid (HLW.out.below hb); have HB7 := Lib.hid (HBW.out.trans (hb.mono HBW.out.size)); have HR7 := Lib.hid (show ∀ k, B1 ≤ k → k < w5.heap.size → w7.heap[k]? = w5.heap[k]? from fun k h1 h2 => ((hb.block k (Nat.lt_of_lt_of_le h2 HSW.out)).trans (HROW.out k h1 h2))); have HS7 := Lib.hid (Nat.le_trans HSW.out hb.size); clear ho hb; have hbx7 := (HB7.out.block _ HSZ.out).trans HBX.out; obtain ⟨k1, _⟩ := cells_of_block hbx7 1 _ rfl; obtain ⟨k2, _⟩ := cells_of_block hbx7 2 _ rfl; clear hbx7))
        by_cases hbad : keep < 0 ∨ torn < 0 ∨ 64 < torn
        · have hF : crF nw m1 (bs ++ yw) keep torn = (3, nw, bs ++ yw, m1) := by unfold crF; rw [if_pos hbad]
          refine (crash_gen w7 _ p vw nw _ m1 24 HL7.out keep torn hkeep).mono ?_
          rw [hF]
          rintro e w8 ⟨rfl, ⟨u8, hl8⟩, hk8⟩
          have HL8 := Lib.hid hl8
          have HB8 := Lib.hid (below_log HB7.out HL7.out hk8)
          have HO8 := Lib.hid (HO7.out.keptF hk8 (fun k hk => by rcases hk with rfl | hk; exact HLT.out.1; exact (HLT.out.2 k hk).2))
          have hral := log_room hl8 HRA.out
          clear hl8 hk8
          go_wp2_with (first | (go_at_call 19; refine (records_log _ _ p _ _ _ _ 24 ra HL8.out HRA.out).mono ?_; rintro e w9 ⟨u9, rfl, ho, hb⟩; obtain ⟨a9, c9, rfl⟩ := ho.lv; have HR9 := Lib.hid ho.rd.1; have HRB := Lib.hid (HO8.out.below hb).rd.1; have HB9 := Lib.hid (HB8.out.trans (hb.mono HB8.out.size)); clear ho hb) | (go_at_call 25; refine (same_any ra ra ra.length ra.length rfl rfl _ _ _ _ _ (by omega) (by omega) HRB.out HR9.out).mono ?_; rintro e w10 ⟨rfl, hb⟩; rw [decide_eq_true (rfl : ra = ra)]; have HB9 := Lib.hid (HB9.out.trans (hb.mono HB9.out.size)); clear hb))
          go_ret
          exact ⟨rfl, HB0.out.trans (HB9.out.mono (Nat.le_of_lt HSZ.out))⟩
        · have hF : crF nw m1 (bs ++ yw) keep torn = (0, (crashB (bs ++ yw) nw m1 keep torn).1, (crashB (bs ++ yw) nw m1 keep torn).2, (crashB (bs ++ yw) nw m1 keep torn).1) := by unfold crF; rw [if_neg hbad]
          obtain ⟨zz, hzz⟩ := crash_pre (y := yw) (n := nw) (keep := keep) (torn := torn) HBL.out
          rw [hzz] at hF
          generalize (crashB (bs ++ yw) nw m1 keep torn).1 = n8 at hF
          refine (crash_gen w7 _ p vw nw _ m1 24 HL7.out keep torn hkeep).mono ?_
          rw [hF]
          rintro e w8 ⟨rfl, ⟨u8, hl8⟩, hk8⟩
          have HL8 := Lib.hid hl8
          have HB8 := Lib.hid (below_log HB7.out HL7.out hk8)
          have HO8 := Lib.hid (HO7.out.keptF hk8 (fun k hk => by rcases hk with rfl | hk; exact HLT.out.1; exact (HLT.out.2 k hk).2))
          have HW8 := Lib.hid (HO5.out.kept fun k h1 h2 => (hk8.block k (Nat.lt_of_lt_of_le h2 HS7.out) (fun hf => by
            rcases hf with rfl | hf
            · omega
            · rcases HVW.out k hf with h3 | h3 <;> omega)).trans (HR7.out k h1 h2))
          obtain ⟨rg, hrg⟩ := parsed_exists (bs ++ zz)
          have HRG := Lib.hid hrg
          have hrgl := log_room hl8 hrg
          have hral := log_room HL7.out HRA.out
          have hp1 : rs <+: rg := parsed_prefix HRS.out hrg
          have hp2 : rs <+: ra := parsed_prefix HRS.out HRA.out
          have hrsl : rs.length ≤ 4096 := Nat.le_trans hp1.length_le hrgl
          have HP1 := Lib.hid hp1
          have HP2 := Lib.hid hp2
          have kx := text_pre bs zz
          clear hl8 hk8 hzz hF hrg hp1 hp2
          go_wp2_with (first | (go_at_call 27; refine (bytes_any _ _ p _ _ _ _ 24 HL8.out).mono ?_; rintro e w9 ⟨u9, rfl, ho, hb⟩; obtain ⟨a9, c9, rfl⟩ := ho.lv; have kt := run_text ho.isB; rw [List.length_append] at kt; have HOA := Lib.hid (HO8.out.below hb); have HWA := Lib.hid (HW8.out.below hb); have HL9 := Lib.hid (HL8.out.below hb); have HB9 := Lib.hid (HB8.out.trans (hb.mono HB8.out.size)); clear ho hb) | (go_at_call 19; refine (records_log _ _ p _ _ _ _ 24 rg HL9.out HRG.out).mono ?_; rintro e w10 ⟨u10, rfl, ho, hb⟩; obtain ⟨a10, c10, rfl⟩ := ho.lv; have hcapg := rows_cap ho; have HRN := Lib.hid ho.rd.1; have hcapa := rows_cap HOA.out; have HRA9 := Lib.hid (HOA.out.below hb).rd.1; have HRW := Lib.hid (HWA.out.below hb).rd.1; have HB9 := Lib.hid (HB9.out.trans (hb.mono HB9.out.size)); clear ho hb HOA HWA) | (go_at_call 21; refine (begins_any rs rg rs.length rg.length rfl rfl _ _ _ _ _ (by omega) (by omega) hcapg HRW.out HRN.out).mono ?_; rintro e w11 ⟨rfl, hb⟩; rw [decide_eq_true HP1.out]; have HRA9 := Lib.hid (HRA9.out.below hb); have HRW := Lib.hid (HRW.out.below hb); have HB9 := Lib.hid (HB9.out.trans (hb.mono HB9.out.size)); clear hb HRN) | (go_at_call 21; refine (begins_any rs ra rs.length ra.length rfl rfl _ _ _ _ _ (by omega) (by omega) hcapa HRW.out HRA9.out).mono ?_; rintro e w12 ⟨rfl, hb⟩; rw [decide_eq_true HP2.out]; have HB9 := Lib.hid (HB9.out.trans (hb.mono HB9.out.size)); clear hb))
          go_ret
          exact ⟨rfl, HB0.out.trans (HB9.out.mono (Nat.le_of_lt HSZ.out))⟩
      · have hl1' : ¬ (j : Int) < m := by omega
        go_wp2_with (first | (go_at_call 19; refine (records_log _ _ p _ _ _ _ 24 ra HLW.out HRA.out).mono ?_; rintro e w7 ⟨u7, rfl, ho, hb⟩; obtain ⟨a7, c7, rfl⟩ := ho.lv; have HO7 := Lib.hid ho; have HLT := Lib.hid HLW.out.lt; have HL7 := Lib.hid (HLW.out.below hb); have HB7 := Lib.hid (HBW.out.trans (hb.mono HBW.out.size)); have HR7 := Lib.hid (show ∀ k, B1 ≤ k → k < w5.heap.size → w7.heap[k]? = w5.heap[k]? from fun k h1 h2 => ((hb.block k (Nat.lt_of_lt_of_le h2 HSW.out)).trans (HROW.out k h1 h2))); have HS7 := Lib.hid (Nat.le_trans HSW.out hb.size); clear ho hb; have hbx7 := (HB7.out.block _ HSZ.out).trans HBX.out; obtain ⟨k1, _⟩ := cells_of_block hbx7 1 _ rfl; obtain ⟨k2, _⟩ := cells_of_block hbx7 2 _ rfl; clear hbx7))
        by_cases hbad : keep < 0 ∨ torn < 0 ∨ 64 < torn
        · have hF : crF nw m1 (bs ++ yw) keep torn = (3, nw, bs ++ yw, m1) := by unfold crF; rw [if_pos hbad]
          refine (crash_gen w7 _ p vw nw _ m1 24 HL7.out keep torn hkeep).mono ?_
          rw [hF]
          rintro e w8 ⟨rfl, ⟨u8, hl8⟩, hk8⟩
          have HL8 := Lib.hid hl8
          have HB8 := Lib.hid (below_log HB7.out HL7.out hk8)
          have HO8 := Lib.hid (HO7.out.keptF hk8 (fun k hk => by rcases hk with rfl | hk; exact HLT.out.1; exact (HLT.out.2 k hk).2))
          have hral := log_room hl8 HRA.out
          clear hl8 hk8
          go_wp2_with (first | (go_at_call 19; refine (records_log _ _ p _ _ _ _ 24 ra HL8.out HRA.out).mono ?_; rintro e w9 ⟨u9, rfl, ho, hb⟩; obtain ⟨a9, c9, rfl⟩ := ho.lv; have HR9 := Lib.hid ho.rd.1; have HRB := Lib.hid (HO8.out.below hb).rd.1; have HB9 := Lib.hid (HB8.out.trans (hb.mono HB8.out.size)); clear ho hb) | (go_at_call 25; refine (same_any ra ra ra.length ra.length rfl rfl _ _ _ _ _ (by omega) (by omega) HRB.out HR9.out).mono ?_; rintro e w10 ⟨rfl, hb⟩; rw [decide_eq_true (rfl : ra = ra)]; have HB9 := Lib.hid (HB9.out.trans (hb.mono HB9.out.size)); clear hb))
          go_ret
          exact ⟨rfl, HB0.out.trans (HB9.out.mono (Nat.le_of_lt HSZ.out))⟩
        · have hF : crF nw m1 (bs ++ yw) keep torn = (0, (crashB (bs ++ yw) nw m1 keep torn).1, (crashB (bs ++ yw) nw m1 keep torn).2, (crashB (bs ++ yw) nw m1 keep torn).1) := by unfold crF; rw [if_neg hbad]
          obtain ⟨zz, hzz⟩ := crash_pre (y := yw) (n := nw) (keep := keep) (torn := torn) HBL.out
          rw [hzz] at hF
          generalize (crashB (bs ++ yw) nw m1 keep torn).1 = n8 at hF
          refine (crash_gen w7 _ p vw nw _ m1 24 HL7.out keep torn hkeep).mono ?_
          rw [hF]
          rintro e w8 ⟨rfl, ⟨u8, hl8⟩, hk8⟩
          have HL8 := Lib.hid hl8
          have HB8 := Lib.hid (below_log HB7.out HL7.out hk8)
          have HO8 := Lib.hid (HO7.out.keptF hk8 (fun k hk => by rcases hk with rfl | hk; exact HLT.out.1; exact (HLT.out.2 k hk).2))
          have HW8 := Lib.hid (HO5.out.kept fun k h1 h2 => (hk8.block k (Nat.lt_of_lt_of_le h2 HS7.out) (fun hf => by
            rcases hf with rfl | hf
            · omega
            · rcases HVW.out k hf with h3 | h3 <;> omega)).trans (HR7.out k h1 h2))
          obtain ⟨rg, hrg⟩ := parsed_exists (bs ++ zz)
          have HRG := Lib.hid hrg
          have hrgl := log_room hl8 hrg
          have hral := log_room HL7.out HRA.out
          have hp1 : rs <+: rg := parsed_prefix HRS.out hrg
          have hp2 : rs <+: ra := parsed_prefix HRS.out HRA.out
          have hrsl : rs.length ≤ 4096 := Nat.le_trans hp1.length_le hrgl
          have HP1 := Lib.hid hp1
          have HP2 := Lib.hid hp2
          have kx := text_pre bs zz
          clear hl8 hk8 hzz hF hrg hp1 hp2
          go_wp2_with (first | (go_at_call 27; refine (bytes_any _ _ p _ _ _ _ 24 HL8.out).mono ?_; rintro e w9 ⟨u9, rfl, ho, hb⟩; obtain ⟨a9, c9, rfl⟩ := ho.lv; have kt := run_text ho.isB; rw [List.length_append] at kt; have HOA := Lib.hid (HO8.out.below hb); have HWA := Lib.hid (HW8.out.below hb); have HL9 := Lib.hid (HL8.out.below hb); have HB9 := Lib.hid (HB8.out.trans (hb.mono HB8.out.size)); clear ho hb) | (go_at_call 19; refine (records_log _ _ p _ _ _ _ 24 rg HL9.out HRG.out).mono ?_; rintro e w10 ⟨u10, rfl, ho, hb⟩; obtain ⟨a10, c10, rfl⟩ := ho.lv; have hcapg := rows_cap ho; have HRN := Lib.hid ho.rd.1; have hcapa := rows_cap HOA.out; have HRA9 := Lib.hid (HOA.out.below hb).rd.1; have HRW := Lib.hid (HWA.out.below hb).rd.1; have HB9 := Lib.hid (HB9.out.trans (hb.mono HB9.out.size)); clear ho hb HOA HWA) | (go_at_call 21; refine (begins_any rs rg rs.length rg.length rfl rfl _ _ _ _ _ (by omega) (by omega) hcapg HRW.out HRN.out).mono ?_; rintro e w11 ⟨rfl, hb⟩; rw [decide_eq_true HP1.out]; have HRA9 := Lib.hid (HRA9.out.below hb); have HRW := Lib.hid (HRW.out.below hb); have HB9 := Lib.hid (HB9.out.trans (hb.mono HB9.out.size)); clear hb HRN) | (go_at_call 21; refine (begins_any rs ra rs.length ra.length rfl rfl _ _ _ _ _ (by omega) (by omega) hcapa HRW.out HRA9.out).mono ?_; rintro e w12 ⟨rfl, hb⟩; rw [decide_eq_true HP2.out]; have HB9 := Lib.hid (HB9.out.trans (hb.mono HB9.out.size)); clear hb))
          go_ret
          exact ⟨rfl, HB0.out.trans (HB9.out.mono (Nat.le_of_lt HSZ.out))⟩

end Go.Proofs.Ytmkfiecdgghceaa
