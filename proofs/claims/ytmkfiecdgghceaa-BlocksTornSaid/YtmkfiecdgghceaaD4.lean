/- Layer 5 (blocks): BlocksTorn: the walk (printed by mkd4.py). -/
import Derived.Test.YtmkfiecdgghceaaD5
import Derived.Test.YtmkfiecdgghceaaD9
import Derived.Test.YtmkfiecdgghceaaOpen
namespace Go.Proofs.Ytmkfiecdgghceaa
open Go.RowKit
set_option linter.unusedVariables false
set_option linter.unusedSimpArgs false

theorem torn_crash {bs l : Bs} {K n0 : Nat} {keep torn : Int} (hb : bs.length = n0 * 64) (h1 : 1 ≤ l.length) (h2 : l.length ≤ 120) (hK : K + 1 ≤ 255) (k0 : 0 ≤ keep) (t0 : 0 ≤ torn) (t1 : torn ≤ 64) :
    ∃ t, (crashB (bs ++ recd l (K + 1)) (n0 + needN l.length) n0 keep torn).2 = bs ++ t ∧ (t = recd l (K + 1) ∨ (keep < (needN l.length : Int) ∧ scan t (K + 1) = none)) := by
  have hR := recd_length (K + 1) h1 (by omega : l.length ≤ 1024)
  generalize hN : needN l.length = N at *
  have hM : crashN (n0 + N) n0 keep = n0 + min keep.toNat N := by unfold crashN; omega
  unfold crashB
  rw [hM]
  by_cases ht : 0 < torn ∧ n0 + min keep.toNat N < n0 + N
  · rw [if_pos ht]
    refine ⟨(recd l (K + 1)).take (min keep.toNat N * 64 + torn.toNat) ++ List.replicate (64 - torn.toNat) 0, ?_, ?_⟩
    · simp only
      rw [List.take_append, List.take_of_length_le (by omega), List.append_assoc, show (n0 + min keep.toNat N) * 64 + torn.toNat - bs.length = min keep.toNat N * 64 + torn.toNat by omega]
    · rcases torn_scan h1 h2 hK (m := min keep.toNat N * 64 + torn.toNat) (j := 64 - torn.toNat) (by omega) rfl with h | h
      · exact .inr ⟨by omega, h⟩
      · exact .inl h
  · rw [if_neg ht]
    refine ⟨(recd l (K + 1)).take (min keep.toNat N * 64), ?_, ?_⟩
    · simp only
      rw [List.take_append, List.take_of_length_le (by omega), show (n0 + min keep.toNat N) * 64 - bs.length = min keep.toNat N * 64 by omega]
    · by_cases hk : N ≤ keep.toNat
      · left
        rw [Nat.min_eq_right hk]
        exact List.take_of_length_le (by omega)
      · rcases torn_scan (t := (recd l (K + 1)).take (min keep.toNat N * 64)) h1 h2 hK (m := min keep.toNat N * 64) (j := 0) (by omega) (by simp) with h | h
        · exact .inr ⟨by omega, h⟩
        · exact .inl h

theorem ArgR.mono {w : World} {B B' : Nat} {x : Value} {n : Nat} (h : ArgR w B x n) (hB : B ≤ B') : ArgR w B' x n := by
  obtain ⟨ao, c, e, h1, h2, h3⟩ := h
  refine ⟨ao, c, e, h1, h2, fun h0 => ?_⟩
  obtain ⟨a, ea, hb, h4⟩ := h3 h0
  refine ⟨a, ea, by omega, fun j hj => ?_⟩
  obtain ⟨y, l, h5, h6⟩ := h4 j hj
  exact ⟨y, l, h5, h6.mono hB⟩
theorem ArgR.kept {w w' : World} {B : Nat} {x : Value} {n : Nat} (h : ArgR w B x n) (hk : Keeps (fun i => B ≤ i) w w') (hB : B ≤ w.heap.size) : ArgR w' B x n := by
  obtain ⟨ao, c, e, h1, h2, h3⟩ := h
  refine ⟨ao, c, e, h1, h2, fun h0 => ?_⟩
  obtain ⟨a, ea, hb, h4⟩ := h3 h0
  refine ⟨a, ea, hb, fun j hj => ?_⟩
  obtain ⟨y, l, h5, h6⟩ := h4 j hj
  exact ⟨y, l, (World.cell?_of_block (by rw [add_block]; exact hk.block a.block (by omega) (by omega))).trans h5, h6.kept hk⟩

/-- what the loop keeps -/
def Tor (w0 : World) (p j : Nat) (wr : World) : Prop := ∃ v m rs, LogAt wr w0.heap.size p v m (encs rs 0) 0 200 ∧ Good rs ∧ rs.length ≤ j ∧ m ≤ 4 * j ∧ Below w0.heap.size w0 wr
theorem Tor.below {w0 wr : World} {p j : Nat} (h : Tor w0 p j wr) : Below w0.heap.size w0 wr := by
  obtain ⟨_, _, _, _, _, _, _, h⟩ := h
  exact h
theorem Tor.up {w0 wr : World} {p j : Nat} (h : Tor w0 p j wr) : Tor w0 p (j + 1) wr := by
  obtain ⟨v, m, rs, h1, h2, h3, h4, h5⟩ := h
  exact ⟨v, m, rs, h1, h2, by omega, by omega, h5⟩

set_option maxRecDepth 100000 in
set_option maxHeartbeats 8000000 in
theorem torn_walk (x y : Value) (n : Nat) (l : Bs) (kind keep torn : Int) (z : Value) (w : World) (hkeep : keep ≤ 9223372036854775807) (h : ArgR w w.heap.size x n) (hy : ArgB w w.heap.size y l) :
    Calls Try.prog 4 #[x, y, .agg #[.int .i64 kind, .int .i64 keep, .int .i64 torn, z]] w fun e w' => e = .returned (.bool true) ∧ Below w.heap.size w w' := by
  obtain ⟨w0, hw0⟩ : ∃ w0, w0 = w.alloc (.cells #[.int .i64 kind, .int .i64 keep, .int .i64 torn, z] 30) := ⟨_, rfl⟩
  have hb0 : Below w.heap.size w w0 := hw0 ▸ (Below.refl _ w).alloc (Nat.le_refl _) _
  have hsz : w.heap.size < w0.heap.size := by rw [hw0]; simp
  have hbx : w0.heap[w.heap.size]? = some (.cells #[.int .i64 kind, .int .i64 keep, .int .i64 torn, z] 30 (0, 0)) := by rw [hw0]; exact heap_alloc_eq
  have hx0 := (h.kept (Keeps.of_below' hb0) (Nat.le_refl _)).mono (Nat.le_of_lt hsz)
  have hy0 := (hy.kept (Keeps.of_below' hb0)).mono (Nat.le_of_lt hsz)
  have H := new_any 200 w0 (by omega) (by omega)
  rw [show Calls Try.prog 16 #[.int .i64 200] w0 = Calls Try.prog 16 #[.int .i64 200] (w.alloc (.cells #[.int .i64 kind, .int .i64 keep, .int .i64 torn, z] 30)) by rw [hw0]] at H
  have HB0 := Lib.hid hb0
  have HSZ := Lib.hid hsz
  have HBX := Lib.hid hbx
  have HX0 := Lib.hid hx0
  have HY0 := Lib.hid hy0
  obtain ⟨ao, cx, rfl, hc1, hc2, _⟩ := h
  obtain ⟨a, c, rfl, hd1, hd2⟩ := hy.lv
  unfold maxLen at hc2 hd2
  have hlen : n ≤ 9223372036854775807 := by omega
  have hll : l.length ≤ 9223372036854775807 := by omega
  clear hw0 hb0 hsz hbx hx0 hy0 hy hc1
  go_enter Try.func4, Try.ntmps4
  go_wp2_with (go_at_call 16; refine H.mono ?_; clear H; rintro e w1 ⟨p, rfl, hl, hb⟩; have HT := Lib.hid (show Tor w0 p 0 w1 from ⟨_, _, [], hl, (fun r h => by simp at h), Nat.le_refl _, Nat.le_refl _, hb⟩); clear hl hb)
  go_loopw [8] (fun i wr => ∃ j : Nat, j ≤ 8 ∧ j ≤ n ∧ i = .int .i64 j ∧ Hid (Tor w0 p j wr)) (fun i _ => 8 - (intOf i).toNat)
  case atStart => exact ⟨0, by omega, by omega, rfl, HT⟩
  case round =>
    obtain ⟨j, hj, hjd, rfl, hW⟩ := hrel
    by_cases hlt : j < n ∧ j < 8
    · obtain ⟨hl1, hl2⟩ := hlt
      have hxr := HX0.out.kept (Keeps.of_below' hW.out.below) (Nat.le_refl _)
      obtain ⟨ax, cx', hv, _, _, hcell⟩ := hxr
      simp only [Value.slice.injEq, true_and] at hv
      obtain ⟨rfl, rfl⟩ := hv
      obtain ⟨ad, rfl, hab, hcell⟩ := hcell (by omega)
      obtain ⟨yv, r, hc, hyv⟩ := hcell j hl1
      obtain ⟨y0, r0, hc0, _⟩ := hcell 0 (by omega)
      have hs : ad.spot = none := by
        have := World.cell?_spot hc0
        simpa [Addr.add] using this
      rw [add_flat hs] at hc
      obtain ⟨xb, xo, xs⟩ := ad
      simp only at hs
      subst hs
      have hl1' : (j : Int) < n := by omega
      have hl2' : (j : Int) < 8 := by omega
      obtain ⟨ya, yc, rfl, hy1, hy2⟩ := hyv.lv
      have hyl : r.length ≤ maxLen := Nat.le_trans hy1 hy2
      have HML := Lib.hid hyl
      have HYL := Lib.hid hyv
      have hya := hyv
      clear hcell hab hyv hyl hc0
      by_cases hr0 : 0 < r.length
      · have t0 : (0 : Int) < (r.length : Int) := by omega
        by_cases hr : r.length ≤ 200
        · have t1 : (r.length : Int) ≤ 200 := by omega
          have hN := needN_of (by omega : 1 ≤ r.length) (by omega : r.length ≤ 1024)
          obtain ⟨ya', yc', hv, _, _, hs3⟩ := hya
          simp only [Value.slice.injEq, true_and] at hv
          obtain ⟨rfl, rfl⟩ := hv
          obtain ⟨b, o, rfl, _, hsrc⟩ := hs3 hr0
          have HSrc := Lib.hid hsrc
          clear hsrc hs3
          obtain ⟨vw, m, rs, hLw, hg, hrl, hmj, hbw⟩ := hW.out
          have HLW := Lib.hid hLw
          have HG := Lib.hid hg
          clear hLw hg
          go_wp2_with (go_at_call 17; refine (append_any wr _ p vw m _ 0 200 rs HLW.out (parsed_encs HG.out) r b o yc (by omega) (by omega) hy1 hy2 HSrc.out (by omega)).mono ?_; rintro e w6 ⟨rfl, u6, hl6, _, hk6⟩; have HW6 := Lib.hid (show Tor w0 p (j + 1) w6 from ⟨u6, m + needN r.length, rs ++ [r], by rw [encs_append]; simpa [encs] using hl6, (fun q hq => by rcases List.mem_append.1 hq with h | h; exact HG.out q h; simp at h; subst h; exact ⟨by omega, by omega⟩), by simp; omega, by omega, below_log hbw HLW.out hk6⟩); clear hl6 hk6)
          go_roundw
          case rel => exact ⟨j + 1, by omega, by omega, by simp, HW6⟩
          case measure => simp [intOf]; omega
        · have t1 : ¬ (r.length : Int) ≤ 200 := by omega
          clear hya
          go_wp2
          go_roundw
          case rel => exact ⟨j + 1, by omega, by omega, by simp, Lib.hid hW.out.up⟩
          case measure => simp [intOf]; omega
      · have t0 : ¬ (0 : Int) < (r.length : Int) := by omega
        clear hya
        go_wp2
        go_roundw
        case rel => exact ⟨j + 1, by omega, by omega, by simp, Lib.hid hW.out.up⟩
        case measure => simp [intOf]; omega
    · obtain ⟨vw, m, rs, hLw, hg, hrl, hmj, hbw⟩ := hW.out
      have HLW := Lib.hid hLw
      have HG := Lib.hid hg
      have HBW := Lib.hid hbw
      have HRS := Lib.hid (parsed_encs hg)
      have HLN := Lib.hid hLw.row.1
      have hrl8 : rs.length ≤ 8 := by omega
      have hm32 : m ≤ 32 := by omega
      clear hLw hg hbw hW HX0 hrl hmj
      by_cases hl1 : j < n
      · have hl1' : (j : Int) < n := by omega
        have hl2' : ¬ (j : Int) < 8 := by omega
        rcases (show l.length < 1 ∨ 120 < l.length ∨ (1 ≤ l.length ∧ l.length ≤ 120) by omega) with hA | hA | ⟨hA1, hA2⟩
        · have t1 : (l.length : Int) < 1 := by omega
          go_wp2_with (first | (go_at_call 18; refine (sync_any _ _ p vw m _ 0 200 HLW.out).mono ?_; rintro e w3 ⟨rfl, hl, hk⟩; have HB3 := Lib.hid (below_log HBW.out HLW.out (hk.mono fun i _ e => .inl e)); have HL3 := Lib.hid hl; have HLT := Lib.hid hl.lt; clear hl hk HLW HBW) | (go_at_call 19; refine (records_log _ _ p _ _ _ _ 200 rs HL3.out HRS.out).mono ?_; rintro e w4 ⟨u4, rfl, ho, hb⟩; obtain ⟨a4, c4, rfl⟩ := ho.lv; have HO4 := Lib.hid ho; have HL4 := Lib.hid (HL3.out.below hb); have HB4 := Lib.hid (HB3.out.trans (hb.mono HB3.out.size)); clear ho hb HL3 HB3) | (go_at_call 11; refine (live_any _).mono ?_; rintro e w9 ⟨rfl, hb⟩; have HB9 := Lib.hid (HB4.out.trans (hb.mono HB4.out.size)); clear hb))
          go_ret
          exact ⟨rfl, HB0.out.trans (HB9.out.mono (Nat.le_of_lt HSZ.out))⟩
        · have t1 : ¬ (l.length : Int) < 1 := by omega
          have t2 : (120 : Int) < (l.length : Int) := by omega
          go_wp2_with (first | (go_at_call 18; refine (sync_any _ _ p vw m _ 0 200 HLW.out).mono ?_; rintro e w3 ⟨rfl, hl, hk⟩; have HB3 := Lib.hid (below_log HBW.out HLW.out (hk.mono fun i _ e => .inl e)); have HL3 := Lib.hid hl; have HLT := Lib.hid hl.lt; clear hl hk HLW HBW) | (go_at_call 19; refine (records_log _ _ p _ _ _ _ 200 rs HL3.out HRS.out).mono ?_; rintro e w4 ⟨u4, rfl, ho, hb⟩; obtain ⟨a4, c4, rfl⟩ := ho.lv; have HO4 := Lib.hid ho; have HL4 := Lib.hid (HL3.out.below hb); have HB4 := Lib.hid (HB3.out.trans (hb.mono HB3.out.size)); clear ho hb HL3 HB3) | (go_at_call 11; refine (live_any _).mono ?_; rintro e w9 ⟨rfl, hb⟩; have HB9 := Lib.hid (HB4.out.trans (hb.mono HB4.out.size)); clear hb))
          go_ret
          exact ⟨rfl, HB0.out.trans (HB9.out.mono (Nat.le_of_lt HSZ.out))⟩
        · have t1 : ¬ (l.length : Int) < 1 := by omega
          have t2 : ¬ (120 : Int) < (l.length : Int) := by omega
          have hN := needN_of hA1 (by omega : l.length ≤ 1024)
          obtain ⟨a', c', hv, _, _, hs3⟩ := HY0.out
          simp only [Value.slice.injEq, true_and] at hv
          obtain ⟨rfl, rfl⟩ := hv
          obtain ⟨sb, so, rfl, _, _⟩ := hs3 (by omega)
          clear hs3
          go_wp2_with (first | (go_at_call 18; refine (sync_any _ _ p vw m _ 0 200 HLW.out).mono ?_; rintro e w3 ⟨rfl, hl, hk⟩; have HB3 := Lib.hid (below_log HBW.out HLW.out (hk.mono fun i _ e => .inl e)); have HL3 := Lib.hid hl; have HLT := Lib.hid hl.lt; clear hl hk HLW HBW) | (go_at_call 19; refine (records_log _ _ p _ _ _ _ 200 rs HL3.out HRS.out).mono ?_; rintro e w4 ⟨u4, rfl, ho, hb⟩; obtain ⟨a4, c4, rfl⟩ := ho.lv; have HO4 := Lib.hid ho; have HL4 := Lib.hid (HL3.out.below hb); have HB4 := Lib.hid (HB3.out.trans (hb.mono HB3.out.size)); clear ho hb HL3 HB3))
          obtain ⟨a', c', hv, hq1, hq2, hs3⟩ := HY0.out.kept (Keeps.of_below' HB4.out)
          simp only [Value.slice.injEq, true_and] at hv
          obtain ⟨rfl, rfl⟩ := hv
          obtain ⟨sb', so', hsbe, _, hsrc⟩ := hs3 (by omega)
          simp only [Option.some.injEq, Addr.mk.injEq, and_true] at hsbe
          obtain ⟨rfl, rfl⟩ := hsbe
          have HSrc := Lib.hid hsrc
          clear hsrc hs3
          go_wp2_with (go_at_call 17; refine (append_any _ _ p vw m _ m 200 rs HL4.out HRS.out l sb so c hA1 (by omega) hq1 hq2 HSrc.out (by omega)).mono ?_; rintro e w5 ⟨rfl, u5, hl5, hu5, hk5⟩; have HB5 := Lib.hid (below_log HB4.out HL4.out hk5); have HL5 := Lib.hid hl5; have HU5 := Lib.hid hu5; have HK5 := Lib.hid hk5; clear hl5 hu5 hk5 HB4 HL4; obtain ⟨k1, _⟩ := cells_of_block ((HB5.out.block _ HSZ.out).trans HBX.out) 1 _ rfl; obtain ⟨k2, _⟩ := cells_of_block ((HB5.out.block _ HSZ.out).trans HBX.out) 2 _ rfl)
          by_cases hbad : keep < 0 ∨ torn < 0 ∨ 64 < torn
          · have hF : crF (m + needN l.length) m (encs rs 0 ++ recd l (rs.length + 1)) keep torn = (3, m + needN l.length, encs rs 0 ++ recd l (rs.length + 1), m) := by unfold crF; rw [if_pos hbad]
            refine (crash_gen _ _ p u5 _ _ m 200 HL5.out keep torn hkeep).mono ?_
            rw [hF]
            rintro e w6 ⟨rfl, ⟨u6, hl6⟩, hk6⟩
            have HB9 := Lib.hid (below_log HB5.out HL5.out hk6)
            obtain ⟨k3, _⟩ := cells_of_block ((HB9.out.block _ HSZ.out).trans HBX.out) 1 _ rfl
            obtain ⟨k4, _⟩ := cells_of_block ((HB9.out.block _ HSZ.out).trans HBX.out) 2 _ rfl
            clear hl6 hk6
            rcases (show keep < 0 ∨ (¬ keep < 0 ∧ torn < 0) ∨ (¬ keep < 0 ∧ ¬ torn < 0 ∧ 64 < torn) by omega) with hb1 | ⟨hb1, hb2⟩ | ⟨hb1, hb2, hb3⟩
            · clear hbad
              go_wp2_with (go_at_call 11; refine (live_any _).mono ?_; rintro e w9 ⟨rfl, hb⟩; have HB9 := Lib.hid (HB9.out.trans (hb.mono HB9.out.size)); clear hb; obtain ⟨k5, _⟩ := cells_of_block ((HB9.out.block _ HSZ.out).trans HBX.out) 1 _ rfl; obtain ⟨k6, _⟩ := cells_of_block ((HB9.out.block _ HSZ.out).trans HBX.out) 2 _ rfl)
              go_ret
              exact ⟨rfl, HB0.out.trans (HB9.out.mono (Nat.le_of_lt HSZ.out))⟩
            · clear hbad
              go_wp2_with (go_at_call 11; refine (live_any _).mono ?_; rintro e w9 ⟨rfl, hb⟩; have HB9 := Lib.hid (HB9.out.trans (hb.mono HB9.out.size)); clear hb; obtain ⟨k5, _⟩ := cells_of_block ((HB9.out.block _ HSZ.out).trans HBX.out) 1 _ rfl; obtain ⟨k6, _⟩ := cells_of_block ((HB9.out.block _ HSZ.out).trans HBX.out) 2 _ rfl)
              go_ret
              exact ⟨rfl, HB0.out.trans (HB9.out.mono (Nat.le_of_lt HSZ.out))⟩
            · clear hbad
              go_wp2_with (go_at_call 11; refine (live_any _).mono ?_; rintro e w9 ⟨rfl, hb⟩; have HB9 := Lib.hid (HB9.out.trans (hb.mono HB9.out.size)); clear hb; obtain ⟨k5, _⟩ := cells_of_block ((HB9.out.block _ HSZ.out).trans HBX.out) 1 _ rfl; obtain ⟨k6, _⟩ := cells_of_block ((HB9.out.block _ HSZ.out).trans HBX.out) 2 _ rfl)
              go_ret
              exact ⟨rfl, HB0.out.trans (HB9.out.mono (Nat.le_of_lt HSZ.out))⟩
          · have hF : crF (m + needN l.length) m (encs rs 0 ++ recd l (rs.length + 1)) keep torn = (0, (crashB (encs rs 0 ++ recd l (rs.length + 1)) (m + needN l.length) m keep torn).1, (crashB (encs rs 0 ++ recd l (rs.length + 1)) (m + needN l.length) m keep torn).2, (crashB (encs rs 0 ++ recd l (rs.length + 1)) (m + needN l.length) m keep torn).1) := by unfold crF; rw [if_neg hbad]
            obtain ⟨tt, htt, hor⟩ := torn_crash (K := rs.length) (keep := keep) (torn := torn) HLN.out hA1 hA2 (by omega) (by omega) (by omega) (by omega)
            rw [htt] at hF
            generalize (crashB (encs rs 0 ++ recd l (rs.length + 1)) (m + needN l.length) m keep torn).1 = n8 at hF
            refine (crash_gen _ _ p u5 _ _ m 200 HL5.out keep torn hkeep).mono ?_
            rw [hF]
            rintro e w6 ⟨rfl, ⟨u6, hl6⟩, hk6⟩
            have HL6 := Lib.hid hl6
            have HB6 := Lib.hid (below_log HB5.out HL5.out hk6)
            have HO6 := Lib.hid (HO4.out.kept fun k h1 h2 => (hk6.block k (Nat.lt_of_lt_of_le h2 HK5.out.size) (fun hf => by
              have h3 := HLT.out.1
              rcases hf with rfl | hf
              · omega
              · rcases HU5.out k hf with h4 | h4
                · have := (HLT.out.2 k h4).2; omega
                · omega)).trans (HK5.out.block k h2 (fun hf => by
              have h3 := HLT.out.1
              rcases hf with rfl | hf
              · omega
              · have := (HLT.out.2 k hf).2; omega)))
            clear hl6 hk6 hF htt HU5 HK5 HL5 HB5 HO4 k1 k2
            have wv : IntKind.i64.wrap ((rs.length : Int) + 1) = (rs.length : Int) + 1 := IntWalk.i64_in _ (by omega)
            have HNN := Lib.hid hN
            clear hN
            rcases hor with rfl | ⟨hk, hno⟩
            · go_wp2_with (go_at_call 19; refine (records_log _ _ p _ _ _ _ 200 (rs ++ [l]) HL6.out (parsed_snoc rfl HG.out (by omega) (by omega))).mono ?_; rintro e w7 ⟨u9, rfl, ho, hb⟩; obtain ⟨a9, c9, hv9⟩ := ho.lv; rw [show (rs ++ [l]).length = rs.length + 1 by simp] at hv9; subst hv9; have HCap := Lib.hid (rows_cap ho); have hsn : rs.length < (rs ++ [l]).length := (by simp); obtain ⟨b9, o9, y9, hya, hyc, hyb⟩ := ho.rd.1.at hsn; rw [List.getElem_append_right (Nat.le_refl _)] at hyb; simp only [Nat.sub_self, List.getElem_cons_zero] at hyb; obtain ⟨ya, yc, hye, _⟩ := hyb.rd; have HI1 := Lib.hid (hye ▸ hyb); have HCL := Lib.hid (hye ▸ hyc); have HR9 := Lib.hid (hya ▸ ho.rd.1); subst hya; have HR6 := Lib.hid (HO6.out.below hb).rd.1; have HB9 := Lib.hid (HB6.out.trans (hb.mono HB6.out.size)); have HI2 := Lib.hid (show IsB _ (.slice (some ⟨sb, so, none⟩) l.length c) l from ((HY0.out.kept (Keeps.of_below' HB9.out)).isB).isB (by omega)); have HC1 := Lib.hid (cells_of_block ((HB9.out.block _ HSZ.out).trans HBX.out) 1 _ rfl).1; clear hyc hyb ho hb HL6 HB6 HO6 hye)
              have hlt : (rs.length : Int) < (rs.length : Int) + 1 := by omega
              have hne : ¬ (rs.length : Int) + 1 = (rs.length : Int) := by omega
              have HR6 := Lib.hid (HR6.out.below (Below.refl _ w7).drew)
              have HR9 := Lib.hid (HR9.out.below (Below.refl _ w7).drew)
              have HB9 := Lib.hid HB9.out.drew
              have HC1 := Lib.hid (((Below.refl _ w7).drew.cell (World.block_lt_of_cell? _ _ HC1.out)).trans HC1.out)
              have HCL := Lib.hid (((Below.refl _ w7).drew.cell (World.block_lt_of_cell? _ _ HCL.out)).trans HCL.out)
              have HI1 := Lib.hid (HI1.out.below (Below.refl _ w7).drew)
              have HI2 := Lib.hid (HI2.out.below (Below.refl _ w7).drew)
              by_cases hkn : (needN l.length : Int) ≤ keep
              · clear hA1 hbad
                refine wp_region_V (fun w' => (w'.cell? ⟨w.heap.size, 1, none⟩ = some (.int .i64 keep)) ∧ (True))
                  [(true, 0), (true, 1), (true, 2), (true, 3), (false, 4), (true, 5), (true, 6), (true, 7), (true, 8), (true, 9), (true, 10), (true, 11), (true, 12), (true, 13)] (by kernel_rfl) (by kernel_rfl) rfl (by kernel_rfl) ?_ ?_
                · exact ⟨by exact HC1.out, trivial⟩
                simp only [List.filterMap_cons, List.filterMap_nil, List.getElem?_cons_succ, List.getElem?_cons_zero, Option.map_some]
                apply wpSeqV_takeK _ (by first | rfl | (simp [Region.wanted, yielded]; done))
                · rintro w' ⟨s0, _⟩
                  go_simp
                  try rfl
                intro K hK
                go_simp
                refine hK _ ?_
                clear hK K
                apply wpSeqV_takeK _ (by first | rfl | (simp [Region.wanted, yielded]; done))
                · rintro w' ⟨s0, _⟩
                  go_simp
                  try rfl
                intro K hK
                go_simp
                refine hK _ ?_
                clear hK K
                apply wpSeqV_takeK _ (by first | rfl | (simp [Region.wanted, yielded]; done))
                · rintro w' ⟨s0, _⟩
                  go_simp
                  try rfl
                intro K hK
                go_simp
                refine hK _ ?_
                clear hK K
                apply wpSeqV_takeK _ (by first | rfl | (simp [Region.wanted, yielded]; done))
                · rintro w' ⟨s0, _⟩
                  go_simp
                  try rfl
                intro K hK
                go_simp
                refine hK _ ?_
                clear hK K
                refine wpSeqV_alone ?_
                focus (go_wp2_with (go_at_call 14; refine (need_any (l.length : Int) _).mono ?_; rintro e w8 ⟨rfl, rfl⟩; rw [need_nat]))
                refine QV_normal (fun w' => (w'.cell? ⟨w.heap.size, 1, none⟩ = some (.int .i64 keep)) ∧ (True)) (by rintro w' ⟨s0, _⟩; exact ⟨s0, trivial⟩) ⟨by exact HC1.out, trivial⟩ (fun _ => ?_)
                apply wpSeqV_takeK _ (by first | rfl | (simp [Region.wanted, yielded]; done))
                · rintro w' ⟨s0, _⟩
                  go_simp
                  try rfl
                intro K hK
                go_simp
                refine hK _ ?_
                clear hK K
                apply wpSeqV_takeK _ (by first | rfl | (simp [Region.wanted, yielded]; done))
                · rintro w' ⟨s0, _⟩
                  go_simp
                  try rfl
                intro K hK
                go_simp
                refine hK _ ?_
                clear hK K
                apply wpSeqV_takeK _ (by first | rfl | (simp [Region.wanted, yielded]; done))
                · rintro w' ⟨s0, _⟩
                  go_simp
                  try rfl
                intro K hK
                go_simp
                refine hK _ ?_
                clear hK K
                apply wpSeqV_takeK _ (by first | rfl | (simp [Region.wanted, yielded]; done))
                · rintro w' ⟨s0, _⟩
                  go_simp
                  try rfl
                intro K hK
                go_simp
                refine hK _ ?_
                clear hK K
                apply wpSeqV_takeK _ (by first | rfl | (simp [Region.wanted, yielded]; done))
                · rintro w' ⟨s0, _⟩
                  go_simp
                  try rfl
                intro K hK
                go_simp
                refine hK _ ?_
                clear hK K
                apply wpSeqV_takeK _ (by first | rfl | (simp [Region.wanted, yielded]; done))
                · rintro w' ⟨s0, _⟩
                  go_simp
                  try rfl
                intro K hK
                go_simp
                refine hK _ ?_
                clear hK K
                apply wpSeqV_takeK _ (by first | rfl | (simp [Region.wanted, yielded]; done))
                · rintro w' ⟨s0, _⟩
                  go_simp
                  try rfl
                intro K hK
                go_simp
                refine hK _ ?_
                clear hK K
                apply wpSeqV_takeK _ (by first | rfl | (simp [Region.wanted, yielded]; done))
                · rintro w' ⟨s0, _⟩
                  go_simp
                  try rfl
                intro K hK
                go_simp
                refine hK _ ?_
                clear hK K
                apply wpSeqV_takeK _ (by first | rfl | (simp [Region.wanted, yielded]; done))
                · rintro w' ⟨s0, _⟩
                  go_simp
                  try rfl
                intro K hK
                go_simp
                refine hK _ ?_
                clear hK K
                refine wpSeqV_end ?_
                go_wp2
                have HR6 := Lib.hid (HR6.out.below (Below.refl _ w7.drew).drew)
                have HR9 := Lib.hid (HR9.out.below (Below.refl _ w7.drew).drew)
                have HB9 := Lib.hid HB9.out.drew
                have HCL := Lib.hid (((Below.refl _ w7.drew).drew.cell (World.block_lt_of_cell? _ _ HCL.out)).trans HCL.out)
                have HI1 := Lib.hid (HI1.out.below (Below.refl _ w7.drew).drew)
                have HI2 := Lib.hid (HI2.out.below (Below.refl _ w7.drew).drew)
                refine wp_region_V (fun w' => (w'.cell? ⟨b9, o9 + rs.length, none⟩ = some (.slice ya l.length yc)) ∧ (IsB w' (.slice ya l.length yc) l) ∧ (IsB w' (.slice (some ⟨sb, so, none⟩) l.length c) l) ∧ (True))
                  [(false, 0), (true, 1), (true, 2), (true, 3), (false, 4), (true, 5), (true, 6), (true, 7), (true, 8), (true, 9), (true, 10), (true, 11), (true, 12), (true, 13), (true, 14), (true, 15), (true, 16), (true, 17), (true, 18), (true, 19), (true, 20), (true, 21), (true, 22), (true, 23), (true, 24), (true, 25), (true, 26), (true, 27), (true, 28), (true, 29), (true, 30), (true, 31), (true, 32)] (by kernel_rfl) (by kernel_rfl) rfl (by kernel_rfl) ?_ ?_
                · exact ⟨by first | exact HCL.out | exact HI1.out | exact HI2.out, by first | exact HCL.out | exact HI1.out | exact HI2.out, by first | exact HCL.out | exact HI1.out | exact HI2.out, trivial⟩
                simp only [List.filterMap_cons, List.filterMap_nil, List.getElem?_cons_succ, List.getElem?_cons_zero, Option.map_some]
                refine wpSeqV_alone ?_
                focus (go_wp2_with (go_at_call 11; refine (live_any _).mono ?_; rintro e w9 ⟨rfl, hb⟩; have HCL := Lib.hid ((hb.cell (World.block_lt_of_cell? _ _ HCL.out)).trans HCL.out); have HI1 := Lib.hid (HI1.out.below hb); have HI2 := Lib.hid (HI2.out.below hb); have HR6 := Lib.hid (HR6.out.below hb); have HR9 := Lib.hid (HR9.out.below hb); have HB9 := Lib.hid (HB9.out.trans (hb.mono HB9.out.size)); clear hb))
                refine QV_normal (fun w' => (w'.cell? ⟨b9, o9 + rs.length, none⟩ = some (.slice ya l.length yc)) ∧ (IsB w' (.slice ya l.length yc) l) ∧ (IsB w' (.slice (some ⟨sb, so, none⟩) l.length c) l) ∧ (True)) (by rintro w' ⟨s0, s1, s2, _⟩; exact ⟨s0, s1, s2, trivial⟩) ⟨by first | exact HCL.out | exact HI1.out | exact HI2.out, by first | exact HCL.out | exact HI1.out | exact HI2.out, by first | exact HCL.out | exact HI1.out | exact HI2.out, trivial⟩ (fun _ => ?_)
                apply wpSeqV_takeK _ (by first | rfl | (simp [Region.wanted, yielded]; done))
                · rintro w' ⟨s0, s1, s2, _⟩
                  go_simp
                  try rfl
                intro K hK
                go_simp
                refine hK _ ?_
                clear hK K
                apply wpSeqV_takeK _ (by first | rfl | (simp [Region.wanted, yielded]; done))
                · rintro w' ⟨s0, s1, s2, _⟩
                  go_simp
                  try rfl
                intro K hK
                go_simp
                refine hK _ ?_
                clear hK K
                apply wpSeqV_takeK _ (by first | rfl | (simp [Region.wanted, yielded]; done))
                · rintro w' ⟨s0, s1, s2, _⟩
                  go_simp
                  try rfl
                intro K hK
                go_simp
                refine hK _ ?_
                clear hK K
                refine wpSeqV_alone ?_
                focus (go_wp2_with (go_at_call 21; refine (begins_any rs (rs ++ [l]) rs.length (rs.length + 1) rfl (by simp) _ _ _ _ _ (by omega) (by omega) HCap.out HR6.out HR9.out).mono ?_; rintro e w10 ⟨rfl, hb⟩; rw [decide_eq_true (List.prefix_append rs [l])]; have HCL := Lib.hid ((hb.cell (World.block_lt_of_cell? _ _ HCL.out)).trans HCL.out); have HI1 := Lib.hid (HI1.out.below hb); have HI2 := Lib.hid (HI2.out.below hb); have HB9 := Lib.hid (HB9.out.trans (hb.mono HB9.out.size)); clear hb))
                refine QV_normal (fun w' => (w'.cell? ⟨b9, o9 + rs.length, none⟩ = some (.slice ya l.length yc)) ∧ (IsB w' (.slice ya l.length yc) l) ∧ (IsB w' (.slice (some ⟨sb, so, none⟩) l.length c) l) ∧ (True)) (by rintro w' ⟨s0, s1, s2, _⟩; exact ⟨s0, s1, s2, trivial⟩) ⟨by first | exact HCL.out | exact HI1.out | exact HI2.out, by first | exact HCL.out | exact HI1.out | exact HI2.out, by first | exact HCL.out | exact HI1.out | exact HI2.out, trivial⟩ (fun _ => ?_)
                apply wpSeqV_takeK _ (by first | rfl | (simp [Region.wanted, yielded]; done))
                · rintro w' ⟨s0, s1, s2, _⟩
                  go_simp
                  try rfl
                intro K hK
                go_simp
                refine hK _ ?_
                clear hK K
                apply wpSeqV_takeK _ (by first | rfl | (simp [Region.wanted, yielded]; done))
                · rintro w' ⟨s0, s1, s2, _⟩
                  go_simp
                  try rfl
                intro K hK
                go_simp
                refine hK _ ?_
                clear hK K
                apply wpSeqV_takeK _ (by first | rfl | (simp [Region.wanted, yielded]; done))
                · rintro w' ⟨s0, s1, s2, _⟩
                  go_simp
                  try rfl
                intro K hK
                go_simp
                refine hK _ ?_
                clear hK K
                apply wpSeqV_takeK _ (by first | rfl | (simp [Region.wanted, yielded]; done))
                · rintro w' ⟨s0, s1, s2, _⟩
                  go_simp
                  try rfl
                intro K hK
                go_simp
                refine hK _ ?_
                clear hK K
                apply wpSeqV_takeK _ (by first | rfl | (simp [Region.wanted, yielded]; done))
                · rintro w' ⟨s0, s1, s2, _⟩
                  go_simp
                  try rfl
                intro K hK
                go_simp
                refine hK _ ?_
                clear hK K
                apply wpSeqV_takeK _ (by first | rfl | (simp [Region.wanted, yielded]; done))
                · rintro w' ⟨s0, s1, s2, _⟩
                  go_simp
                  try rfl
                intro K hK
                go_simp
                refine hK _ ?_
                clear hK K
                apply wpSeqV_takeK _ (by first | rfl | (simp [Region.wanted, yielded]; done))
                · rintro w' ⟨s0, s1, s2, _⟩
                  go_simp
                  try rfl
                intro K hK
                go_simp
                refine hK _ ?_
                clear hK K
                apply wpSeqV_takeK _ (by first | rfl | (simp [Region.wanted, yielded]; done))
                · rintro w' ⟨s0, s1, s2, _⟩
                  go_simp
                  try rfl
                intro K hK
                go_simp
                refine hK _ ?_
                clear hK K
                apply wpSeqV_takeK _ (by first | rfl | (simp [Region.wanted, yielded]; done))
                · rintro w' ⟨s0, s1, s2, _⟩
                  go_simp
                  try rfl
                intro K hK
                go_simp
                refine hK _ ?_
                clear hK K
                apply wpSeqV_takeK _ (by first | rfl | (simp [Region.wanted, yielded]; done))
                · rintro w' ⟨s0, s1, s2, _⟩
                  go_simp
                  try rfl
                intro K hK
                go_simp
                refine hK _ ?_
                clear hK K
                apply wpSeqV_takeK _ (by first | rfl | (simp [Region.wanted, yielded]; done))
                · rintro w' ⟨s0, s1, s2, _⟩
                  go_simp
                  try rfl
                intro K hK
                go_simp
                refine hK _ ?_
                clear hK K
                apply wpSeqV_takeK _ (by first | rfl | (simp [Region.wanted, yielded]; done))
                · rintro w' ⟨s0, s1, s2, _⟩
                  go_simp
                  try rfl
                intro K hK
                go_simp
                refine hK _ ?_
                clear hK K
                apply wpSeqV_takeK _ (by first | rfl | (simp [Region.wanted, yielded]; done))
                · rintro w' ⟨s0, s1, s2, _⟩
                  go_simp
                  try rfl
                intro K hK
                go_simp
                refine hK _ ?_
                clear hK K
                apply wpSeqV_takeK _ (by first | rfl | (simp [Region.wanted, yielded]; done))
                · rintro w' ⟨s0, s1, s2, _⟩
                  go_simp
                  try rfl
                intro K hK
                go_simp
                refine hK _ ?_
                clear hK K
                refine wpSeqV_takeK (.bool false) (by first | rfl | (simp [Region.wanted, yielded]; done)) ?_ ?_
                · rintro w' ⟨s0, s1, s2, _⟩
                  (go_simp <;> first | omega | simp [hne])
                intro K hK
                go_simp
                refine hK _ ?_
                clear hK K
                apply wpSeqV_takeK _ (by first | rfl | (simp [Region.wanted, yielded]; done))
                · rintro w' ⟨s0, s1, s2, _⟩
                  go_simp
                  try rfl
                intro K hK
                go_simp
                refine hK _ ?_
                clear hK K
                apply wpSeqV_takeK _ (by first | rfl | (simp [Region.wanted, yielded]; done))
                · rintro w' ⟨s0, s1, s2, _⟩
                  go_simp
                  try rfl
                intro K hK
                go_simp
                refine hK _ ?_
                clear hK K
                apply wpSeqV_takeK _ (by first | rfl | (simp [Region.wanted, yielded]; done))
                · rintro w' ⟨s0, s1, s2, _⟩
                  go_simp
                  try rfl
                intro K hK
                go_simp
                refine hK _ ?_
                clear hK K
                apply wpSeqV_takeK _ (by first | rfl | (simp [Region.wanted, yielded]; done))
                · rintro w' ⟨s0, s1, s2, _⟩
                  go_simp
                  try rfl
                intro K hK
                go_simp
                refine hK _ ?_
                clear hK K
                apply wpSeqV_takeK _ (by first | rfl | (simp [Region.wanted, yielded]; done))
                · rintro w' ⟨s0, s1, s2, _⟩
                  go_simp
                  try rfl
                intro K hK
                go_simp
                refine hK _ ?_
                clear hK K
                apply wpSeqV_takeK _ (by first | rfl | (simp [Region.wanted, yielded]; done))
                · rintro w' ⟨s0, s1, s2, _⟩
                  go_simp
                  try rfl
                intro K hK
                go_simp
                refine hK _ ?_
                clear hK K
                refine wpSeqV_takeK (.string ⟨l.toArray⟩) (by first | rfl | (simp [Region.wanted, yielded]; done)) ?_ ?_
                · rintro w' ⟨s0, s1, s2, _⟩
                  exact exec_text rfl rfl s1
                intro K hK
                go_simp
                refine hK _ ?_
                clear hK K
                apply wpSeqV_takeK _ (by first | rfl | (simp [Region.wanted, yielded]; done))
                · rintro w' ⟨s0, s1, s2, _⟩
                  go_simp
                  try rfl
                intro K hK
                go_simp
                refine hK _ ?_
                clear hK K
                refine wpSeqV_takeK (.string ⟨l.toArray⟩) (by first | rfl | (simp [Region.wanted, yielded]; done)) ?_ ?_
                · rintro w' ⟨s0, s1, s2, _⟩
                  exact exec_text rfl rfl s2
                intro K hK
                go_simp
                refine hK _ ?_
                clear hK K
                refine wpSeqV_takeK (.bool true) (by first | rfl | (simp [Region.wanted, yielded]; done)) ?_ ?_
                · rintro w' ⟨s0, s1, s2, _⟩
                  (rw [exec_eqlText (l := l) (m := l) rfl rfl rfl]; simp)
                intro K hK
                go_simp
                refine hK _ ?_
                clear hK K
                apply wpSeqV_takeK _ (by first | rfl | (simp [Region.wanted, yielded]; done))
                · rintro w' ⟨s0, s1, s2, _⟩
                  go_simp
                  try rfl
                intro K hK
                go_simp
                refine hK _ ?_
                clear hK K
                apply wpSeqV_takeK _ (by first | rfl | (simp [Region.wanted, yielded]; done))
                · rintro w' ⟨s0, s1, s2, _⟩
                  go_simp
                  try rfl
                intro K hK
                go_simp
                refine hK _ ?_
                clear hK K
                apply wpSeqV_takeK _ (by first | rfl | (simp [Region.wanted, yielded]; done))
                · rintro w' ⟨s0, s1, s2, _⟩
                  go_simp
                  try rfl
                intro K hK
                go_simp
                refine hK _ ?_
                clear hK K
                refine wpSeqV_end ?_
                go_wp2
                go_ret
                exact ⟨rfl, HB0.out.trans (HB9.out.mono (Nat.le_of_lt HSZ.out))⟩
              · clear hA1 hbad
                refine wp_region_V (fun w' => (w'.cell? ⟨w.heap.size, 1, none⟩ = some (.int .i64 keep)) ∧ (True))
                  [(true, 0), (true, 1), (true, 2), (true, 3), (false, 4), (true, 5), (true, 6), (true, 7), (true, 8), (true, 9), (true, 10), (true, 11), (true, 12), (true, 13)] (by kernel_rfl) (by kernel_rfl) rfl (by kernel_rfl) ?_ ?_
                · exact ⟨by exact HC1.out, trivial⟩
                simp only [List.filterMap_cons, List.filterMap_nil, List.getElem?_cons_succ, List.getElem?_cons_zero, Option.map_some]
                apply wpSeqV_takeK _ (by first | rfl | (simp [Region.wanted, yielded]; done))
                · rintro w' ⟨s0, _⟩
                  go_simp
                  try rfl
                intro K hK
                go_simp
                refine hK _ ?_
                clear hK K
                apply wpSeqV_takeK _ (by first | rfl | (simp [Region.wanted, yielded]; done))
                · rintro w' ⟨s0, _⟩
                  go_simp
                  try rfl
                intro K hK
                go_simp
                refine hK _ ?_
                clear hK K
                apply wpSeqV_takeK _ (by first | rfl | (simp [Region.wanted, yielded]; done))
                · rintro w' ⟨s0, _⟩
                  go_simp
                  try rfl
                intro K hK
                go_simp
                refine hK _ ?_
                clear hK K
                apply wpSeqV_takeK _ (by first | rfl | (simp [Region.wanted, yielded]; done))
                · rintro w' ⟨s0, _⟩
                  go_simp
                  try rfl
                intro K hK
                go_simp
                refine hK _ ?_
                clear hK K
                refine wpSeqV_alone ?_
                focus (go_wp2_with (go_at_call 14; refine (need_any (l.length : Int) _).mono ?_; rintro e w8 ⟨rfl, rfl⟩; rw [need_nat]))
                refine QV_normal (fun w' => (w'.cell? ⟨w.heap.size, 1, none⟩ = some (.int .i64 keep)) ∧ (True)) (by rintro w' ⟨s0, _⟩; exact ⟨s0, trivial⟩) ⟨by exact HC1.out, trivial⟩ (fun _ => ?_)
                refine wpSeqV_takeK (.bool false) (by first | rfl | (simp [Region.wanted, yielded]; done)) ?_ ?_
                · rintro w' ⟨s0, _⟩
                  (go_simp <;> first | omega | simp [hkn])
                intro K hK
                go_simp
                refine hK _ ?_
                clear hK K
                apply wpSeqV_takeK _ (by first | rfl | (simp [Region.wanted, yielded]; done))
                · rintro w' ⟨s0, _⟩
                  go_simp
                  try rfl
                intro K hK
                go_simp
                refine hK _ ?_
                clear hK K
                refine wpSeqV_skipT (by first | rfl | (simp [Region.wanted, yielded]; done)) ?_
                intro K hK
                go_simp
                refine hK _ ?_
                clear hK K
                refine wpSeqV_skipT (by first | rfl | (simp [Region.wanted, yielded]; done)) ?_
                intro K hK
                go_simp
                refine hK _ ?_
                clear hK K
                refine wpSeqV_skipT (by first | rfl | (simp [Region.wanted, yielded]; done)) ?_
                intro K hK
                go_simp
                refine hK _ ?_
                clear hK K
                refine wpSeqV_skipT (by first | rfl | (simp [Region.wanted, yielded]; done)) ?_
                intro K hK
                go_simp
                refine hK _ ?_
                clear hK K
                refine wpSeqV_skipT (by first | rfl | (simp [Region.wanted, yielded]; done)) ?_
                intro K hK
                go_simp
                refine hK _ ?_
                clear hK K
                refine wpSeqV_skipT (by first | rfl | (simp [Region.wanted, yielded]; done)) ?_
                intro K hK
                go_simp
                refine hK _ ?_
                clear hK K
                apply wpSeqV_takeK _ (by first | rfl | (simp [Region.wanted, yielded]; done))
                · rintro w' ⟨s0, _⟩
                  go_simp
                  try rfl
                intro K hK
                go_simp
                refine hK _ ?_
                clear hK K
                refine wpSeqV_end ?_
                go_wp2
                have HR6 := Lib.hid (HR6.out.below (Below.refl _ w7.drew).drew)
                have HR9 := Lib.hid (HR9.out.below (Below.refl _ w7.drew).drew)
                have HB9 := Lib.hid HB9.out.drew
                have HCL := Lib.hid (((Below.refl _ w7.drew).drew.cell (World.block_lt_of_cell? _ _ HCL.out)).trans HCL.out)
                have HI1 := Lib.hid (HI1.out.below (Below.refl _ w7.drew).drew)
                have HI2 := Lib.hid (HI2.out.below (Below.refl _ w7.drew).drew)
                refine wp_region_V (fun w' => (w'.cell? ⟨b9, o9 + rs.length, none⟩ = some (.slice ya l.length yc)) ∧ (IsB w' (.slice ya l.length yc) l) ∧ (IsB w' (.slice (some ⟨sb, so, none⟩) l.length c) l) ∧ (True))
                  [(false, 0), (true, 1), (true, 2), (true, 3), (false, 4), (true, 5), (true, 6), (true, 7), (true, 8), (true, 9), (true, 10), (true, 11), (true, 12), (true, 13), (true, 14), (true, 15), (true, 16), (true, 17), (true, 18), (true, 19), (true, 20), (true, 21), (true, 22), (true, 23), (true, 24), (true, 25), (true, 26), (true, 27), (true, 28), (true, 29), (true, 30), (true, 31), (true, 32)] (by kernel_rfl) (by kernel_rfl) rfl (by kernel_rfl) ?_ ?_
                · exact ⟨by first | exact HCL.out | exact HI1.out | exact HI2.out, by first | exact HCL.out | exact HI1.out | exact HI2.out, by first | exact HCL.out | exact HI1.out | exact HI2.out, trivial⟩
                simp only [List.filterMap_cons, List.filterMap_nil, List.getElem?_cons_succ, List.getElem?_cons_zero, Option.map_some]
                refine wpSeqV_alone ?_
                focus (go_wp2_with (go_at_call 11; refine (live_any _).mono ?_; rintro e w9 ⟨rfl, hb⟩; have HCL := Lib.hid ((hb.cell (World.block_lt_of_cell? _ _ HCL.out)).trans HCL.out); have HI1 := Lib.hid (HI1.out.below hb); have HI2 := Lib.hid (HI2.out.below hb); have HR6 := Lib.hid (HR6.out.below hb); have HR9 := Lib.hid (HR9.out.below hb); have HB9 := Lib.hid (HB9.out.trans (hb.mono HB9.out.size)); clear hb))
                refine QV_normal (fun w' => (w'.cell? ⟨b9, o9 + rs.length, none⟩ = some (.slice ya l.length yc)) ∧ (IsB w' (.slice ya l.length yc) l) ∧ (IsB w' (.slice (some ⟨sb, so, none⟩) l.length c) l) ∧ (True)) (by rintro w' ⟨s0, s1, s2, _⟩; exact ⟨s0, s1, s2, trivial⟩) ⟨by first | exact HCL.out | exact HI1.out | exact HI2.out, by first | exact HCL.out | exact HI1.out | exact HI2.out, by first | exact HCL.out | exact HI1.out | exact HI2.out, trivial⟩ (fun _ => ?_)
                apply wpSeqV_takeK _ (by first | rfl | (simp [Region.wanted, yielded]; done))
                · rintro w' ⟨s0, s1, s2, _⟩
                  go_simp
                  try rfl
                intro K hK
                go_simp
                refine hK _ ?_
                clear hK K
                apply wpSeqV_takeK _ (by first | rfl | (simp [Region.wanted, yielded]; done))
                · rintro w' ⟨s0, s1, s2, _⟩
                  go_simp
                  try rfl
                intro K hK
                go_simp
                refine hK _ ?_
                clear hK K
                apply wpSeqV_takeK _ (by first | rfl | (simp [Region.wanted, yielded]; done))
                · rintro w' ⟨s0, s1, s2, _⟩
                  go_simp
                  try rfl
                intro K hK
                go_simp
                refine hK _ ?_
                clear hK K
                refine wpSeqV_alone ?_
                focus (go_wp2_with (go_at_call 21; refine (begins_any rs (rs ++ [l]) rs.length (rs.length + 1) rfl (by simp) _ _ _ _ _ (by omega) (by omega) HCap.out HR6.out HR9.out).mono ?_; rintro e w10 ⟨rfl, hb⟩; rw [decide_eq_true (List.prefix_append rs [l])]; have HCL := Lib.hid ((hb.cell (World.block_lt_of_cell? _ _ HCL.out)).trans HCL.out); have HI1 := Lib.hid (HI1.out.below hb); have HI2 := Lib.hid (HI2.out.below hb); have HB9 := Lib.hid (HB9.out.trans (hb.mono HB9.out.size)); clear hb))
                refine QV_normal (fun w' => (w'.cell? ⟨b9, o9 + rs.length, none⟩ = some (.slice ya l.length yc)) ∧ (IsB w' (.slice ya l.length yc) l) ∧ (IsB w' (.slice (some ⟨sb, so, none⟩) l.length c) l) ∧ (True)) (by rintro w' ⟨s0, s1, s2, _⟩; exact ⟨s0, s1, s2, trivial⟩) ⟨by first | exact HCL.out | exact HI1.out | exact HI2.out, by first | exact HCL.out | exact HI1.out | exact HI2.out, by first | exact HCL.out | exact HI1.out | exact HI2.out, trivial⟩ (fun _ => ?_)
                apply wpSeqV_takeK _ (by first | rfl | (simp [Region.wanted, yielded]; done))
                · rintro w' ⟨s0, s1, s2, _⟩
                  go_simp
                  try rfl
                intro K hK
                go_simp
                refine hK _ ?_
                clear hK K
                apply wpSeqV_takeK _ (by first | rfl | (simp [Region.wanted, yielded]; done))
                · rintro w' ⟨s0, s1, s2, _⟩
                  go_simp
                  try rfl
                intro K hK
                go_simp
                refine hK _ ?_
                clear hK K
                apply wpSeqV_takeK _ (by first | rfl | (simp [Region.wanted, yielded]; done))
                · rintro w' ⟨s0, s1, s2, _⟩
                  go_simp
                  try rfl
                intro K hK
                go_simp
                refine hK _ ?_
                clear hK K
                apply wpSeqV_takeK _ (by first | rfl | (simp [Region.wanted, yielded]; done))
                · rintro w' ⟨s0, s1, s2, _⟩
                  go_simp
                  try rfl
                intro K hK
                go_simp
                refine hK _ ?_
                clear hK K
                apply wpSeqV_takeK _ (by first | rfl | (simp [Region.wanted, yielded]; done))
                · rintro w' ⟨s0, s1, s2, _⟩
                  go_simp
                  try rfl
                intro K hK
                go_simp
                refine hK _ ?_
                clear hK K
                apply wpSeqV_takeK _ (by first | rfl | (simp [Region.wanted, yielded]; done))
                · rintro w' ⟨s0, s1, s2, _⟩
                  go_simp
                  try rfl
                intro K hK
                go_simp
                refine hK _ ?_
                clear hK K
                apply wpSeqV_takeK _ (by first | rfl | (simp [Region.wanted, yielded]; done))
                · rintro w' ⟨s0, s1, s2, _⟩
                  go_simp
                  try rfl
                intro K hK
                go_simp
                refine hK _ ?_
                clear hK K
                apply wpSeqV_takeK _ (by first | rfl | (simp [Region.wanted, yielded]; done))
                · rintro w' ⟨s0, s1, s2, _⟩
                  go_simp
                  try rfl
                intro K hK
                go_simp
                refine hK _ ?_
                clear hK K
                apply wpSeqV_takeK _ (by first | rfl | (simp [Region.wanted, yielded]; done))
                · rintro w' ⟨s0, s1, s2, _⟩
                  go_simp
                  try rfl
                intro K hK
                go_simp
                refine hK _ ?_
                clear hK K
                apply wpSeqV_takeK _ (by first | rfl | (simp [Region.wanted, yielded]; done))
                · rintro w' ⟨s0, s1, s2, _⟩
                  go_simp
                  try rfl
                intro K hK
                go_simp
                refine hK _ ?_
                clear hK K
                apply wpSeqV_takeK _ (by first | rfl | (simp [Region.wanted, yielded]; done))
                · rintro w' ⟨s0, s1, s2, _⟩
                  go_simp
                  try rfl
                intro K hK
                go_simp
                refine hK _ ?_
                clear hK K
                apply wpSeqV_takeK _ (by first | rfl | (simp [Region.wanted, yielded]; done))
                · rintro w' ⟨s0, s1, s2, _⟩
                  go_simp
                  try rfl
                intro K hK
                go_simp
                refine hK _ ?_
                clear hK K
                apply wpSeqV_takeK _ (by first | rfl | (simp [Region.wanted, yielded]; done))
                · rintro w' ⟨s0, s1, s2, _⟩
                  go_simp
                  try rfl
                intro K hK
                go_simp
                refine hK _ ?_
                clear hK K
                apply wpSeqV_takeK _ (by first | rfl | (simp [Region.wanted, yielded]; done))
                · rintro w' ⟨s0, s1, s2, _⟩
                  go_simp
                  try rfl
                intro K hK
                go_simp
                refine hK _ ?_
                clear hK K
                refine wpSeqV_takeK (.bool false) (by first | rfl | (simp [Region.wanted, yielded]; done)) ?_ ?_
                · rintro w' ⟨s0, s1, s2, _⟩
                  (go_simp <;> first | omega | simp [hne])
                intro K hK
                go_simp
                refine hK _ ?_
                clear hK K
                apply wpSeqV_takeK _ (by first | rfl | (simp [Region.wanted, yielded]; done))
                · rintro w' ⟨s0, s1, s2, _⟩
                  go_simp
                  try rfl
                intro K hK
                go_simp
                refine hK _ ?_
                clear hK K
                apply wpSeqV_takeK _ (by first | rfl | (simp [Region.wanted, yielded]; done))
                · rintro w' ⟨s0, s1, s2, _⟩
                  go_simp
                  try rfl
                intro K hK
                go_simp
                refine hK _ ?_
                clear hK K
                apply wpSeqV_takeK _ (by first | rfl | (simp [Region.wanted, yielded]; done))
                · rintro w' ⟨s0, s1, s2, _⟩
                  go_simp
                  try rfl
                intro K hK
                go_simp
                refine hK _ ?_
                clear hK K
                apply wpSeqV_takeK _ (by first | rfl | (simp [Region.wanted, yielded]; done))
                · rintro w' ⟨s0, s1, s2, _⟩
                  go_simp
                  try rfl
                intro K hK
                go_simp
                refine hK _ ?_
                clear hK K
                apply wpSeqV_takeK _ (by first | rfl | (simp [Region.wanted, yielded]; done))
                · rintro w' ⟨s0, s1, s2, _⟩
                  go_simp
                  try rfl
                intro K hK
                go_simp
                refine hK _ ?_
                clear hK K
                apply wpSeqV_takeK _ (by first | rfl | (simp [Region.wanted, yielded]; done))
                · rintro w' ⟨s0, s1, s2, _⟩
                  go_simp
                  try rfl
                intro K hK
                go_simp
                refine hK _ ?_
                clear hK K
                refine wpSeqV_takeK (.string ⟨l.toArray⟩) (by first | rfl | (simp [Region.wanted, yielded]; done)) ?_ ?_
                · rintro w' ⟨s0, s1, s2, _⟩
                  exact exec_text rfl rfl s1
                intro K hK
                go_simp
                refine hK _ ?_
                clear hK K
                apply wpSeqV_takeK _ (by first | rfl | (simp [Region.wanted, yielded]; done))
                · rintro w' ⟨s0, s1, s2, _⟩
                  go_simp
                  try rfl
                intro K hK
                go_simp
                refine hK _ ?_
                clear hK K
                refine wpSeqV_takeK (.string ⟨l.toArray⟩) (by first | rfl | (simp [Region.wanted, yielded]; done)) ?_ ?_
                · rintro w' ⟨s0, s1, s2, _⟩
                  exact exec_text rfl rfl s2
                intro K hK
                go_simp
                refine hK _ ?_
                clear hK K
                refine wpSeqV_takeK (.bool true) (by first | rfl | (simp [Region.wanted, yielded]; done)) ?_ ?_
                · rintro w' ⟨s0, s1, s2, _⟩
                  (rw [exec_eqlText (l := l) (m := l) rfl rfl rfl]; simp)
                intro K hK
                go_simp
                refine hK _ ?_
                clear hK K
                apply wpSeqV_takeK _ (by first | rfl | (simp [Region.wanted, yielded]; done))
                · rintro w' ⟨s0, s1, s2, _⟩
                  go_simp
                  try rfl
                intro K hK
                go_simp
                refine hK _ ?_
                clear hK K
                apply wpSeqV_takeK _ (by first | rfl | (simp [Region.wanted, yielded]; done))
                · rintro w' ⟨s0, s1, s2, _⟩
                  go_simp
                  try rfl
                intro K hK
                go_simp
                refine hK _ ?_
                clear hK K
                apply wpSeqV_takeK _ (by first | rfl | (simp [Region.wanted, yielded]; done))
                · rintro w' ⟨s0, s1, s2, _⟩
                  go_simp
                  try rfl
                intro K hK
                go_simp
                refine hK _ ?_
                clear hK K
                refine wpSeqV_end ?_
                go_wp2
                go_ret
                exact ⟨rfl, HB0.out.trans (HB9.out.mono (Nat.le_of_lt HSZ.out))⟩
            · go_wp2_with (go_at_call 19; refine (records_log _ _ p _ _ _ _ 200 rs HL6.out (parsed_none rfl HG.out hno)).mono ?_; rintro e w7 ⟨u9, rfl, ho, hb⟩; obtain ⟨a9, c9, rfl⟩ := ho.lv; have HCap := Lib.hid (rows_cap ho); have HR9 := Lib.hid ho.rd.1; have HR6 := Lib.hid (HO6.out.below hb).rd.1; have HB9 := Lib.hid (HB6.out.trans (hb.mono HB6.out.size)); have HC1 := Lib.hid (cells_of_block ((HB9.out.block _ HSZ.out).trans HBX.out) 1 _ rfl).1; clear ho hb HL6 HB6 HO6)
              have hkn : ¬ (needN l.length : Int) ≤ keep := by omega
              have hlt : (rs.length : Int) ≤ (rs.length : Int) + 1 := by omega
              clear hA1 hbad hk hno
              have HR6 := Lib.hid (HR6.out.below (Below.refl _ w7).drew)
              have HR9 := Lib.hid (HR9.out.below (Below.refl _ w7).drew)
              have HB9 := Lib.hid HB9.out.drew
              have HC1 := Lib.hid (((Below.refl _ w7).drew.cell (World.block_lt_of_cell? _ _ HC1.out)).trans HC1.out)
              refine wp_region_V (fun w' => (w'.cell? ⟨w.heap.size, 1, none⟩ = some (.int .i64 keep)) ∧ (True))
                [(true, 0), (true, 1), (true, 2), (true, 3), (false, 4), (true, 5), (true, 6), (true, 7), (true, 8), (true, 9), (true, 10), (true, 11), (true, 12), (true, 13)] (by kernel_rfl) (by kernel_rfl) rfl (by kernel_rfl) ?_ ?_
              · exact ⟨by exact HC1.out, trivial⟩
              simp only [List.filterMap_cons, List.filterMap_nil, List.getElem?_cons_succ, List.getElem?_cons_zero, Option.map_some]
              apply wpSeqV_takeK _ (by first | rfl | (simp [Region.wanted, yielded]; done))
              · rintro w' ⟨s0, _⟩
                go_simp
                try rfl
              intro K hK
              go_simp
              refine hK _ ?_
              clear hK K
              apply wpSeqV_takeK _ (by first | rfl | (simp [Region.wanted, yielded]; done))
              · rintro w' ⟨s0, _⟩
                go_simp
                try rfl
              intro K hK
              go_simp
              refine hK _ ?_
              clear hK K
              apply wpSeqV_takeK _ (by first | rfl | (simp [Region.wanted, yielded]; done))
              · rintro w' ⟨s0, _⟩
                go_simp
                try rfl
              intro K hK
              go_simp
              refine hK _ ?_
              clear hK K
              apply wpSeqV_takeK _ (by first | rfl | (simp [Region.wanted, yielded]; done))
              · rintro w' ⟨s0, _⟩
                go_simp
                try rfl
              intro K hK
              go_simp
              refine hK _ ?_
              clear hK K
              refine wpSeqV_alone ?_
              focus (go_wp2_with (go_at_call 14; refine (need_any (l.length : Int) _).mono ?_; rintro e w8 ⟨rfl, rfl⟩; rw [need_nat]))
              refine QV_normal (fun w' => (w'.cell? ⟨w.heap.size, 1, none⟩ = some (.int .i64 keep)) ∧ (True)) (by rintro w' ⟨s0, _⟩; exact ⟨s0, trivial⟩) ⟨by exact HC1.out, trivial⟩ (fun _ => ?_)
              refine wpSeqV_takeK (.bool false) (by first | rfl | (simp [Region.wanted, yielded]; done)) ?_ ?_
              · rintro w' ⟨s0, _⟩
                (go_simp <;> first | omega | simp [hkn])
              intro K hK
              go_simp
              refine hK _ ?_
              clear hK K
              apply wpSeqV_takeK _ (by first | rfl | (simp [Region.wanted, yielded]; done))
              · rintro w' ⟨s0, _⟩
                go_simp
                try rfl
              intro K hK
              go_simp
              refine hK _ ?_
              clear hK K
              refine wpSeqV_skipT (by first | rfl | (simp [Region.wanted, yielded]; done)) ?_
              intro K hK
              go_simp
              refine hK _ ?_
              clear hK K
              refine wpSeqV_skipT (by first | rfl | (simp [Region.wanted, yielded]; done)) ?_
              intro K hK
              go_simp
              refine hK _ ?_
              clear hK K
              refine wpSeqV_skipT (by first | rfl | (simp [Region.wanted, yielded]; done)) ?_
              intro K hK
              go_simp
              refine hK _ ?_
              clear hK K
              refine wpSeqV_skipT (by first | rfl | (simp [Region.wanted, yielded]; done)) ?_
              intro K hK
              go_simp
              refine hK _ ?_
              clear hK K
              refine wpSeqV_skipT (by first | rfl | (simp [Region.wanted, yielded]; done)) ?_
              intro K hK
              go_simp
              refine hK _ ?_
              clear hK K
              refine wpSeqV_skipT (by first | rfl | (simp [Region.wanted, yielded]; done)) ?_
              intro K hK
              go_simp
              refine hK _ ?_
              clear hK K
              apply wpSeqV_takeK _ (by first | rfl | (simp [Region.wanted, yielded]; done))
              · rintro w' ⟨s0, _⟩
                go_simp
                try rfl
              intro K hK
              go_simp
              refine hK _ ?_
              clear hK K
              refine wpSeqV_end ?_
              go_wp2
              have HR6 := Lib.hid (HR6.out.below (Below.refl _ w7.drew).drew)
              have HR9 := Lib.hid (HR9.out.below (Below.refl _ w7.drew).drew)
              have HB9 := Lib.hid HB9.out.drew
              refine wp_region_V (fun w' => (True))
                [(false, 0), (true, 1), (true, 2), (true, 3), (false, 4), (true, 5), (true, 6), (true, 7), (true, 8), (true, 9), (true, 10), (true, 11), (true, 12), (true, 13), (true, 14), (true, 15), (true, 16), (true, 17), (true, 18), (true, 19), (true, 20), (true, 21), (true, 22), (true, 23), (true, 24), (true, 25), (true, 26), (true, 27), (true, 28), (true, 29), (true, 30), (true, 31), (true, 32)] (by kernel_rfl) (by kernel_rfl) rfl (by kernel_rfl) ?_ ?_
              · exact trivial
              simp only [List.filterMap_cons, List.filterMap_nil, List.getElem?_cons_succ, List.getElem?_cons_zero, Option.map_some]
              refine wpSeqV_alone ?_
              focus (go_wp2_with (go_at_call 11; refine (live_any _).mono ?_; rintro e w9 ⟨rfl, hb⟩; have HR6 := Lib.hid (HR6.out.below hb); have HR9 := Lib.hid (HR9.out.below hb); have HB9 := Lib.hid (HB9.out.trans (hb.mono HB9.out.size)); clear hb))
              refine QV_normal (fun w' => (True)) (by rintro w' _; exact trivial) trivial (fun _ => ?_)
              apply wpSeqV_takeK _ (by first | rfl | (simp [Region.wanted, yielded]; done))
              · rintro w' _
                go_simp
                try rfl
              intro K hK
              go_simp
              refine hK _ ?_
              clear hK K
              apply wpSeqV_takeK _ (by first | rfl | (simp [Region.wanted, yielded]; done))
              · rintro w' _
                go_simp
                try rfl
              intro K hK
              go_simp
              refine hK _ ?_
              clear hK K
              apply wpSeqV_takeK _ (by first | rfl | (simp [Region.wanted, yielded]; done))
              · rintro w' _
                go_simp
                try rfl
              intro K hK
              go_simp
              refine hK _ ?_
              clear hK K
              refine wpSeqV_alone ?_
              focus (go_wp2_with (go_at_call 21; refine (begins_any rs rs rs.length rs.length rfl rfl _ _ _ _ _ (by omega) (by omega) HCap.out HR6.out HR9.out).mono ?_; rintro e w10 ⟨rfl, hb⟩; rw [decide_eq_true (List.prefix_refl rs)]; have HB9 := Lib.hid (HB9.out.trans (hb.mono HB9.out.size)); clear hb))
              refine QV_normal (fun w' => (True)) (by rintro w' _; exact trivial) trivial (fun _ => ?_)
              apply wpSeqV_takeK _ (by first | rfl | (simp [Region.wanted, yielded]; done))
              · rintro w' _
                go_simp
                try rfl
              intro K hK
              go_simp
              refine hK _ ?_
              clear hK K
              apply wpSeqV_takeK _ (by first | rfl | (simp [Region.wanted, yielded]; done))
              · rintro w' _
                go_simp
                try rfl
              intro K hK
              go_simp
              refine hK _ ?_
              clear hK K
              apply wpSeqV_takeK _ (by first | rfl | (simp [Region.wanted, yielded]; done))
              · rintro w' _
                go_simp
                try rfl
              intro K hK
              go_simp
              refine hK _ ?_
              clear hK K
              apply wpSeqV_takeK _ (by first | rfl | (simp [Region.wanted, yielded]; done))
              · rintro w' _
                go_simp
                try rfl
              intro K hK
              go_simp
              refine hK _ ?_
              clear hK K
              apply wpSeqV_takeK _ (by first | rfl | (simp [Region.wanted, yielded]; done))
              · rintro w' _
                go_simp
                try rfl
              intro K hK
              go_simp
              refine hK _ ?_
              clear hK K
              apply wpSeqV_takeK _ (by first | rfl | (simp [Region.wanted, yielded]; done))
              · rintro w' _
                go_simp
                try rfl
              intro K hK
              go_simp
              refine hK _ ?_
              clear hK K
              apply wpSeqV_takeK _ (by first | rfl | (simp [Region.wanted, yielded]; done))
              · rintro w' _
                go_simp
                try rfl
              intro K hK
              go_simp
              refine hK _ ?_
              clear hK K
              apply wpSeqV_takeK _ (by first | rfl | (simp [Region.wanted, yielded]; done))
              · rintro w' _
                go_simp
                try rfl
              intro K hK
              go_simp
              refine hK _ ?_
              clear hK K
              apply wpSeqV_takeK _ (by first | rfl | (simp [Region.wanted, yielded]; done))
              · rintro w' _
                go_simp
                try rfl
              intro K hK
              go_simp
              refine hK _ ?_
              clear hK K
              apply wpSeqV_takeK _ (by first | rfl | (simp [Region.wanted, yielded]; done))
              · rintro w' _
                go_simp
                try rfl
              intro K hK
              go_simp
              refine hK _ ?_
              clear hK K
              apply wpSeqV_takeK _ (by first | rfl | (simp [Region.wanted, yielded]; done))
              · rintro w' _
                go_simp
                try rfl
              intro K hK
              go_simp
              refine hK _ ?_
              clear hK K
              apply wpSeqV_takeK _ (by first | rfl | (simp [Region.wanted, yielded]; done))
              · rintro w' _
                go_simp
                try rfl
              intro K hK
              go_simp
              refine hK _ ?_
              clear hK K
              apply wpSeqV_takeK _ (by first | rfl | (simp [Region.wanted, yielded]; done))
              · rintro w' _
                go_simp
                try rfl
              intro K hK
              go_simp
              refine hK _ ?_
              clear hK K
              apply wpSeqV_takeK _ (by first | rfl | (simp [Region.wanted, yielded]; done))
              · rintro w' _
                go_simp
                try rfl
              intro K hK
              go_simp
              refine hK _ ?_
              clear hK K
              apply wpSeqV_takeK _ (by first | rfl | (simp [Region.wanted, yielded]; done))
              · rintro w' _
                go_simp
                try rfl
              intro K hK
              go_simp
              refine hK _ ?_
              clear hK K
              apply wpSeqV_takeK _ (by first | rfl | (simp [Region.wanted, yielded]; done))
              · rintro w' _
                go_simp
                try rfl
              intro K hK
              go_simp
              refine hK _ ?_
              clear hK K
              refine wpSeqV_skipT (by first | rfl | (simp [Region.wanted, yielded]; done)) ?_
              intro K hK
              go_simp
              refine hK _ ?_
              clear hK K
              refine wpSeqV_skipT (by first | rfl | (simp [Region.wanted, yielded]; done)) ?_
              intro K hK
              go_simp
              refine hK _ ?_
              clear hK K
              refine wpSeqV_skipT (by first | rfl | (simp [Region.wanted, yielded]; done)) ?_
              intro K hK
              go_simp
              refine hK _ ?_
              clear hK K
              refine wpSeqV_skipT (by first | rfl | (simp [Region.wanted, yielded]; done)) ?_
              intro K hK
              go_simp
              refine hK _ ?_
              clear hK K
              refine wpSeqV_skipT (by first | rfl | (simp [Region.wanted, yielded]; done)) ?_
              intro K hK
              go_simp
              refine hK _ ?_
              clear hK K
              refine wpSeqV_skipT (by first | rfl | (simp [Region.wanted, yielded]; done)) ?_
              intro K hK
              go_simp
              refine hK _ ?_
              clear hK K
              refine wpSeqV_skipT (by first | rfl | (simp [Region.wanted, yielded]; done)) ?_
              intro K hK
              go_simp
              refine hK _ ?_
              clear hK K
              refine wpSeqV_skipT (by first | rfl | (simp [Region.wanted, yielded]; done)) ?_
              intro K hK
              go_simp
              refine hK _ ?_
              clear hK K
              refine wpSeqV_skipT (by first | rfl | (simp [Region.wanted, yielded]; done)) ?_
              intro K hK
              go_simp
              refine hK _ ?_
              clear hK K
              apply wpSeqV_takeK _ (by first | rfl | (simp [Region.wanted, yielded]; done))
              · rintro w' _
                go_simp
                try rfl
              intro K hK
              go_simp
              refine hK _ ?_
              clear hK K
              apply wpSeqV_takeK _ (by first | rfl | (simp [Region.wanted, yielded]; done))
              · rintro w' _
                go_simp
                try rfl
              intro K hK
              go_simp
              refine hK _ ?_
              clear hK K
              apply wpSeqV_takeK _ (by first | rfl | (simp [Region.wanted, yielded]; done))
              · rintro w' _
                go_simp
                try rfl
              intro K hK
              go_simp
              refine hK _ ?_
              clear hK K
              refine wpSeqV_end ?_
              go_wp2
              go_ret
              exact ⟨rfl, HB0.out.trans (HB9.out.mono (Nat.le_of_lt HSZ.out))⟩
      · have hl1' : ¬ (j : Int) < n := by omega
        rcases (show l.length < 1 ∨ 120 < l.length ∨ (1 ≤ l.length ∧ l.length ≤ 120) by omega) with hA | hA | ⟨hA1, hA2⟩
        · have t1 : (l.length : Int) < 1 := by omega
          go_wp2_with (first | (go_at_call 18; refine (sync_any _ _ p vw m _ 0 200 HLW.out).mono ?_; rintro e w3 ⟨rfl, hl, hk⟩; have HB3 := Lib.hid (below_log HBW.out HLW.out (hk.mono fun i _ e => .inl e)); have HL3 := Lib.hid hl; have HLT := Lib.hid hl.lt; clear hl hk HLW HBW) | (go_at_call 19; refine (records_log _ _ p _ _ _ _ 200 rs HL3.out HRS.out).mono ?_; rintro e w4 ⟨u4, rfl, ho, hb⟩; obtain ⟨a4, c4, rfl⟩ := ho.lv; have HO4 := Lib.hid ho; have HL4 := Lib.hid (HL3.out.below hb); have HB4 := Lib.hid (HB3.out.trans (hb.mono HB3.out.size)); clear ho hb HL3 HB3) | (go_at_call 11; refine (live_any _).mono ?_; rintro e w9 ⟨rfl, hb⟩; have HB9 := Lib.hid (HB4.out.trans (hb.mono HB4.out.size)); clear hb))
          go_ret
          exact ⟨rfl, HB0.out.trans (HB9.out.mono (Nat.le_of_lt HSZ.out))⟩
        · have t1 : ¬ (l.length : Int) < 1 := by omega
          have t2 : (120 : Int) < (l.length : Int) := by omega
          go_wp2_with (first | (go_at_call 18; refine (sync_any _ _ p vw m _ 0 200 HLW.out).mono ?_; rintro e w3 ⟨rfl, hl, hk⟩; have HB3 := Lib.hid (below_log HBW.out HLW.out (hk.mono fun i _ e => .inl e)); have HL3 := Lib.hid hl; have HLT := Lib.hid hl.lt; clear hl hk HLW HBW) | (go_at_call 19; refine (records_log _ _ p _ _ _ _ 200 rs HL3.out HRS.out).mono ?_; rintro e w4 ⟨u4, rfl, ho, hb⟩; obtain ⟨a4, c4, rfl⟩ := ho.lv; have HO4 := Lib.hid ho; have HL4 := Lib.hid (HL3.out.below hb); have HB4 := Lib.hid (HB3.out.trans (hb.mono HB3.out.size)); clear ho hb HL3 HB3) | (go_at_call 11; refine (live_any _).mono ?_; rintro e w9 ⟨rfl, hb⟩; have HB9 := Lib.hid (HB4.out.trans (hb.mono HB4.out.size)); clear hb))
          go_ret
          exact ⟨rfl, HB0.out.trans (HB9.out.mono (Nat.le_of_lt HSZ.out))⟩
        · have t1 : ¬ (l.length : Int) < 1 := by omega
          have t2 : ¬ (120 : Int) < (l.length : Int) := by omega
          have hN := needN_of hA1 (by omega : l.length ≤ 1024)
          obtain ⟨a', c', hv, _, _, hs3⟩ := HY0.out
          simp only [Value.slice.injEq, true_and] at hv
          obtain ⟨rfl, rfl⟩ := hv
          obtain ⟨sb, so, rfl, _, _⟩ := hs3 (by omega)
          clear hs3
          go_wp2_with (first | (go_at_call 18; refine (sync_any _ _ p vw m _ 0 200 HLW.out).mono ?_; rintro e w3 ⟨rfl, hl, hk⟩; have HB3 := Lib.hid (below_log HBW.out HLW.out (hk.mono fun i _ e => .inl e)); have HL3 := Lib.hid hl; have HLT := Lib.hid hl.lt; clear hl hk HLW HBW) | (go_at_call 19; refine (records_log _ _ p _ _ _ _ 200 rs HL3.out HRS.out).mono ?_; rintro e w4 ⟨u4, rfl, ho, hb⟩; obtain ⟨a4, c4, rfl⟩ := ho.lv; have HO4 := Lib.hid ho; have HL4 := Lib.hid (HL3.out.below hb); have HB4 := Lib.hid (HB3.out.trans (hb.mono HB3.out.size)); clear ho hb HL3 HB3))
          obtain ⟨a', c', hv, hq1, hq2, hs3⟩ := HY0.out.kept (Keeps.of_below' HB4.out)
          simp only [Value.slice.injEq, true_and] at hv
          obtain ⟨rfl, rfl⟩ := hv
          obtain ⟨sb', so', hsbe, _, hsrc⟩ := hs3 (by omega)
          simp only [Option.some.injEq, Addr.mk.injEq, and_true] at hsbe
          obtain ⟨rfl, rfl⟩ := hsbe
          have HSrc := Lib.hid hsrc
          clear hsrc hs3
          go_wp2_with (go_at_call 17; refine (append_any _ _ p vw m _ m 200 rs HL4.out HRS.out l sb so c hA1 (by omega) hq1 hq2 HSrc.out (by omega)).mono ?_; rintro e w5 ⟨rfl, u5, hl5, hu5, hk5⟩; have HB5 := Lib.hid (below_log HB4.out HL4.out hk5); have HL5 := Lib.hid hl5; have HU5 := Lib.hid hu5; have HK5 := Lib.hid hk5; clear hl5 hu5 hk5 HB4 HL4; obtain ⟨k1, _⟩ := cells_of_block ((HB5.out.block _ HSZ.out).trans HBX.out) 1 _ rfl; obtain ⟨k2, _⟩ := cells_of_block ((HB5.out.block _ HSZ.out).trans HBX.out) 2 _ rfl)
          by_cases hbad : keep < 0 ∨ torn < 0 ∨ 64 < torn
          · have hF : crF (m + needN l.length) m (encs rs 0 ++ recd l (rs.length + 1)) keep torn = (3, m + needN l.length, encs rs 0 ++ recd l (rs.length + 1), m) := by unfold crF; rw [if_pos hbad]
            refine (crash_gen _ _ p u5 _ _ m 200 HL5.out keep torn hkeep).mono ?_
            rw [hF]
            rintro e w6 ⟨rfl, ⟨u6, hl6⟩, hk6⟩
            have HB9 := Lib.hid (below_log HB5.out HL5.out hk6)
            obtain ⟨k3, _⟩ := cells_of_block ((HB9.out.block _ HSZ.out).trans HBX.out) 1 _ rfl
            obtain ⟨k4, _⟩ := cells_of_block ((HB9.out.block _ HSZ.out).trans HBX.out) 2 _ rfl
            clear hl6 hk6
            rcases (show keep < 0 ∨ (¬ keep < 0 ∧ torn < 0) ∨ (¬ keep < 0 ∧ ¬ torn < 0 ∧ 64 < torn) by omega) with hb1 | ⟨hb1, hb2⟩ | ⟨hb1, hb2, hb3⟩
            · clear hbad
              go_wp2_with (go_at_call 11; refine (live_any _).mono ?_; rintro e w9 ⟨rfl, hb⟩; have HB9 := Lib.hid (HB9.out.trans (hb.mono HB9.out.size)); clear hb; obtain ⟨k5, _⟩ := cells_of_block ((HB9.out.block _ HSZ.out).trans HBX.out) 1 _ rfl; obtain ⟨k6, _⟩ := cells_of_block ((HB9.out.block _ HSZ.out).trans HBX.out) 2 _ rfl)
              go_ret
              exact ⟨rfl, HB0.out.trans (HB9.out.mono (Nat.le_of_lt HSZ.out))⟩
            · clear hbad
              go_wp2_with (go_at_call 11; refine (live_any _).mono ?_; rintro e w9 ⟨rfl, hb⟩; have HB9 := Lib.hid (HB9.out.trans (hb.mono HB9.out.size)); clear hb; obtain ⟨k5, _⟩ := cells_of_block ((HB9.out.block _ HSZ.out).trans HBX.out) 1 _ rfl; obtain ⟨k6, _⟩ := cells_of_block ((HB9.out.block _ HSZ.out).trans HBX.out) 2 _ rfl)
              go_ret
              exact ⟨rfl, HB0.out.trans (HB9.out.mono (Nat.le_of_lt HSZ.out))⟩
            · clear hbad
              go_wp2_with (go_at_call 11; refine (live_any _).mono ?_; rintro e w9 ⟨rfl, hb⟩; have HB9 := Lib.hid (HB9.out.trans (hb.mono HB9.out.size)); clear hb; obtain ⟨k5, _⟩ := cells_of_block ((HB9.out.block _ HSZ.out).trans HBX.out) 1 _ rfl; obtain ⟨k6, _⟩ := cells_of_block ((HB9.out.block _ HSZ.out).trans HBX.out) 2 _ rfl)
              go_ret
              exact ⟨rfl, HB0.out.trans (HB9.out.mono (Nat.le_of_lt HSZ.out))⟩
          · have hF : crF (m + needN l.length) m (encs rs 0 ++ recd l (rs.length + 1)) keep torn = (0, (crashB (encs rs 0 ++ recd l (rs.length + 1)) (m + needN l.length) m keep torn).1, (crashB (encs rs 0 ++ recd l (rs.length + 1)) (m + needN l.length) m keep torn).2, (crashB (encs rs 0 ++ recd l (rs.length + 1)) (m + needN l.length) m keep torn).1) := by unfold crF; rw [if_neg hbad]
            obtain ⟨tt, htt, hor⟩ := torn_crash (K := rs.length) (keep := keep) (torn := torn) HLN.out hA1 hA2 (by omega) (by omega) (by omega) (by omega)
            rw [htt] at hF
            generalize (crashB (encs rs 0 ++ recd l (rs.length + 1)) (m + needN l.length) m keep torn).1 = n8 at hF
            refine (crash_gen _ _ p u5 _ _ m 200 HL5.out keep torn hkeep).mono ?_
            rw [hF]
            rintro e w6 ⟨rfl, ⟨u6, hl6⟩, hk6⟩
            have HL6 := Lib.hid hl6
            have HB6 := Lib.hid (below_log HB5.out HL5.out hk6)
            have HO6 := Lib.hid (HO4.out.kept fun k h1 h2 => (hk6.block k (Nat.lt_of_lt_of_le h2 HK5.out.size) (fun hf => by
              have h3 := HLT.out.1
              rcases hf with rfl | hf
              · omega
              · rcases HU5.out k hf with h4 | h4
                · have := (HLT.out.2 k h4).2; omega
                · omega)).trans (HK5.out.block k h2 (fun hf => by
              have h3 := HLT.out.1
              rcases hf with rfl | hf
              · omega
              · have := (HLT.out.2 k hf).2; omega)))
            clear hl6 hk6 hF htt HU5 HK5 HL5 HB5 HO4 k1 k2
            have wv : IntKind.i64.wrap ((rs.length : Int) + 1) = (rs.length : Int) + 1 := IntWalk.i64_in _ (by omega)
            have HNN := Lib.hid hN
            clear hN
            rcases hor with rfl | ⟨hk, hno⟩
            · go_wp2_with (go_at_call 19; refine (records_log _ _ p _ _ _ _ 200 (rs ++ [l]) HL6.out (parsed_snoc rfl HG.out (by omega) (by omega))).mono ?_; rintro e w7 ⟨u9, rfl, ho, hb⟩; obtain ⟨a9, c9, hv9⟩ := ho.lv; rw [show (rs ++ [l]).length = rs.length + 1 by simp] at hv9; subst hv9; have HCap := Lib.hid (rows_cap ho); have hsn : rs.length < (rs ++ [l]).length := (by simp); obtain ⟨b9, o9, y9, hya, hyc, hyb⟩ := ho.rd.1.at hsn; rw [List.getElem_append_right (Nat.le_refl _)] at hyb; simp only [Nat.sub_self, List.getElem_cons_zero] at hyb; obtain ⟨ya, yc, hye, _⟩ := hyb.rd; have HI1 := Lib.hid (hye ▸ hyb); have HCL := Lib.hid (hye ▸ hyc); have HR9 := Lib.hid (hya ▸ ho.rd.1); subst hya; have HR6 := Lib.hid (HO6.out.below hb).rd.1; have HB9 := Lib.hid (HB6.out.trans (hb.mono HB6.out.size)); have HI2 := Lib.hid (show IsB _ (.slice (some ⟨sb, so, none⟩) l.length c) l from ((HY0.out.kept (Keeps.of_below' HB9.out)).isB).isB (by omega)); have HC1 := Lib.hid (cells_of_block ((HB9.out.block _ HSZ.out).trans HBX.out) 1 _ rfl).1; clear hyc hyb ho hb HL6 HB6 HO6 hye)
              have hlt : (rs.length : Int) < (rs.length : Int) + 1 := by omega
              have hne : ¬ (rs.length : Int) + 1 = (rs.length : Int) := by omega
              have HR6 := Lib.hid (HR6.out.below (Below.refl _ w7).drew)
              have HR9 := Lib.hid (HR9.out.below (Below.refl _ w7).drew)
              have HB9 := Lib.hid HB9.out.drew
              have HC1 := Lib.hid (((Below.refl _ w7).drew.cell (World.block_lt_of_cell? _ _ HC1.out)).trans HC1.out)
              have HCL := Lib.hid (((Below.refl _ w7).drew.cell (World.block_lt_of_cell? _ _ HCL.out)).trans HCL.out)
              have HI1 := Lib.hid (HI1.out.below (Below.refl _ w7).drew)
              have HI2 := Lib.hid (HI2.out.below (Below.refl _ w7).drew)
              by_cases hkn : (needN l.length : Int) ≤ keep
              · clear hA1 hbad
                refine wp_region_V (fun w' => (w'.cell? ⟨w.heap.size, 1, none⟩ = some (.int .i64 keep)) ∧ (True))
                  [(true, 0), (true, 1), (true, 2), (true, 3), (false, 4), (true, 5), (true, 6), (true, 7), (true, 8), (true, 9), (true, 10), (true, 11), (true, 12), (true, 13)] (by kernel_rfl) (by kernel_rfl) rfl (by kernel_rfl) ?_ ?_
                · exact ⟨by exact HC1.out, trivial⟩
                simp only [List.filterMap_cons, List.filterMap_nil, List.getElem?_cons_succ, List.getElem?_cons_zero, Option.map_some]
                apply wpSeqV_takeK _ (by first | rfl | (simp [Region.wanted, yielded]; done))
                · rintro w' ⟨s0, _⟩
                  go_simp
                  try rfl
                intro K hK
                go_simp
                refine hK _ ?_
                clear hK K
                apply wpSeqV_takeK _ (by first | rfl | (simp [Region.wanted, yielded]; done))
                · rintro w' ⟨s0, _⟩
                  go_simp
                  try rfl
                intro K hK
                go_simp
                refine hK _ ?_
                clear hK K
                apply wpSeqV_takeK _ (by first | rfl | (simp [Region.wanted, yielded]; done))
                · rintro w' ⟨s0, _⟩
                  go_simp
                  try rfl
                intro K hK
                go_simp
                refine hK _ ?_
                clear hK K
                apply wpSeqV_takeK _ (by first | rfl | (simp [Region.wanted, yielded]; done))
                · rintro w' ⟨s0, _⟩
                  go_simp
                  try rfl
                intro K hK
                go_simp
                refine hK _ ?_
                clear hK K
                refine wpSeqV_alone ?_
                focus (go_wp2_with (go_at_call 14; refine (need_any (l.length : Int) _).mono ?_; rintro e w8 ⟨rfl, rfl⟩; rw [need_nat]))
                refine QV_normal (fun w' => (w'.cell? ⟨w.heap.size, 1, none⟩ = some (.int .i64 keep)) ∧ (True)) (by rintro w' ⟨s0, _⟩; exact ⟨s0, trivial⟩) ⟨by exact HC1.out, trivial⟩ (fun _ => ?_)
                apply wpSeqV_takeK _ (by first | rfl | (simp [Region.wanted, yielded]; done))
                · rintro w' ⟨s0, _⟩
                  go_simp
                  try rfl
                intro K hK
                go_simp
                refine hK _ ?_
                clear hK K
                apply wpSeqV_takeK _ (by first | rfl | (simp [Region.wanted, yielded]; done))
                · rintro w' ⟨s0, _⟩
                  go_simp
                  try rfl
                intro K hK
                go_simp
                refine hK _ ?_
                clear hK K
                apply wpSeqV_takeK _ (by first | rfl | (simp [Region.wanted, yielded]; done))
                · rintro w' ⟨s0, _⟩
                  go_simp
                  try rfl
                intro K hK
                go_simp
                refine hK _ ?_
                clear hK K
                apply wpSeqV_takeK _ (by first | rfl | (simp [Region.wanted, yielded]; done))
                · rintro w' ⟨s0, _⟩
                  go_simp
                  try rfl
                intro K hK
                go_simp
                refine hK _ ?_
                clear hK K
                apply wpSeqV_takeK _ (by first | rfl | (simp [Region.wanted, yielded]; done))
                · rintro w' ⟨s0, _⟩
                  go_simp
                  try rfl
                intro K hK
                go_simp
                refine hK _ ?_
                clear hK K
                apply wpSeqV_takeK _ (by first | rfl | (simp [Region.wanted, yielded]; done))
                · rintro w' ⟨s0, _⟩
                  go_simp
                  try rfl
                intro K hK
                go_simp
                refine hK _ ?_
                clear hK K
                apply wpSeqV_takeK _ (by first | rfl | (simp [Region.wanted, yielded]; done))
                · rintro w' ⟨s0, _⟩
                  go_simp
                  try rfl
                intro K hK
                go_simp
                refine hK _ ?_
                clear hK K
                apply wpSeqV_takeK _ (by first | rfl | (simp [Region.wanted, yielded]; done))
                · rintro w' ⟨s0, _⟩
                  go_simp
                  try rfl
                intro K hK
                go_simp
                refine hK _ ?_
                clear hK K
                apply wpSeqV_takeK _ (by first | rfl | (simp [Region.wanted, yielded]; done))
                · rintro w' ⟨s0, _⟩
                  go_simp
                  try rfl
                intro K hK
                go_simp
                refine hK _ ?_
                clear hK K
                refine wpSeqV_end ?_
                go_wp2
                have HR6 := Lib.hid (HR6.out.below (Below.refl _ w7.drew).drew)
                have HR9 := Lib.hid (HR9.out.below (Below.refl _ w7.drew).drew)
                have HB9 := Lib.hid HB9.out.drew
                have HCL := Lib.hid (((Below.refl _ w7.drew).drew.cell (World.block_lt_of_cell? _ _ HCL.out)).trans HCL.out)
                have HI1 := Lib.hid (HI1.out.below (Below.refl _ w7.drew).drew)
                have HI2 := Lib.hid (HI2.out.below (Below.refl _ w7.drew).drew)
                refine wp_region_V (fun w' => (w'.cell? ⟨b9, o9 + rs.length, none⟩ = some (.slice ya l.length yc)) ∧ (IsB w' (.slice ya l.length yc) l) ∧ (IsB w' (.slice (some ⟨sb, so, none⟩) l.length c) l) ∧ (True))
                  [(false, 0), (true, 1), (true, 2), (true, 3), (false, 4), (true, 5), (true, 6), (true, 7), (true, 8), (true, 9), (true, 10), (true, 11), (true, 12), (true, 13), (true, 14), (true, 15), (true, 16), (true, 17), (true, 18), (true, 19), (true, 20), (true, 21), (true, 22), (true, 23), (true, 24), (true, 25), (true, 26), (true, 27), (true, 28), (true, 29), (true, 30), (true, 31), (true, 32)] (by kernel_rfl) (by kernel_rfl) rfl (by kernel_rfl) ?_ ?_
                · exact ⟨by first | exact HCL.out | exact HI1.out | exact HI2.out, by first | exact HCL.out | exact HI1.out | exact HI2.out, by first | exact HCL.out | exact HI1.out | exact HI2.out, trivial⟩
                simp only [List.filterMap_cons, List.filterMap_nil, List.getElem?_cons_succ, List.getElem?_cons_zero, Option.map_some]
                refine wpSeqV_alone ?_
                focus (go_wp2_with (go_at_call 11; refine (live_any _).mono ?_; rintro e w9 ⟨rfl, hb⟩; have HCL := Lib.hid ((hb.cell (World.block_lt_of_cell? _ _ HCL.out)).trans HCL.out); have HI1 := Lib.hid (HI1.out.below hb); have HI2 := Lib.hid (HI2.out.below hb); have HR6 := Lib.hid (HR6.out.below hb); have HR9 := Lib.hid (HR9.out.below hb); have HB9 := Lib.hid (HB9.out.trans (hb.mono HB9.out.size)); clear hb))
                refine QV_normal (fun w' => (w'.cell? ⟨b9, o9 + rs.length, none⟩ = some (.slice ya l.length yc)) ∧ (IsB w' (.slice ya l.length yc) l) ∧ (IsB w' (.slice (some ⟨sb, so, none⟩) l.length c) l) ∧ (True)) (by rintro w' ⟨s0, s1, s2, _⟩; exact ⟨s0, s1, s2, trivial⟩) ⟨by first | exact HCL.out | exact HI1.out | exact HI2.out, by first | exact HCL.out | exact HI1.out | exact HI2.out, by first | exact HCL.out | exact HI1.out | exact HI2.out, trivial⟩ (fun _ => ?_)
                apply wpSeqV_takeK _ (by first | rfl | (simp [Region.wanted, yielded]; done))
                · rintro w' ⟨s0, s1, s2, _⟩
                  go_simp
                  try rfl
                intro K hK
                go_simp
                refine hK _ ?_
                clear hK K
                apply wpSeqV_takeK _ (by first | rfl | (simp [Region.wanted, yielded]; done))
                · rintro w' ⟨s0, s1, s2, _⟩
                  go_simp
                  try rfl
                intro K hK
                go_simp
                refine hK _ ?_
                clear hK K
                apply wpSeqV_takeK _ (by first | rfl | (simp [Region.wanted, yielded]; done))
                · rintro w' ⟨s0, s1, s2, _⟩
                  go_simp
                  try rfl
                intro K hK
                go_simp
                refine hK _ ?_
                clear hK K
                refine wpSeqV_alone ?_
                focus (go_wp2_with (go_at_call 21; refine (begins_any rs (rs ++ [l]) rs.length (rs.length + 1) rfl (by simp) _ _ _ _ _ (by omega) (by omega) HCap.out HR6.out HR9.out).mono ?_; rintro e w10 ⟨rfl, hb⟩; rw [decide_eq_true (List.prefix_append rs [l])]; have HCL := Lib.hid ((hb.cell (World.block_lt_of_cell? _ _ HCL.out)).trans HCL.out); have HI1 := Lib.hid (HI1.out.below hb); have HI2 := Lib.hid (HI2.out.below hb); have HB9 := Lib.hid (HB9.out.trans (hb.mono HB9.out.size)); clear hb))
                refine QV_normal (fun w' => (w'.cell? ⟨b9, o9 + rs.length, none⟩ = some (.slice ya l.length yc)) ∧ (IsB w' (.slice ya l.length yc) l) ∧ (IsB w' (.slice (some ⟨sb, so, none⟩) l.length c) l) ∧ (True)) (by rintro w' ⟨s0, s1, s2, _⟩; exact ⟨s0, s1, s2, trivial⟩) ⟨by first | exact HCL.out | exact HI1.out | exact HI2.out, by first | exact HCL.out | exact HI1.out | exact HI2.out, by first | exact HCL.out | exact HI1.out | exact HI2.out, trivial⟩ (fun _ => ?_)
                apply wpSeqV_takeK _ (by first | rfl | (simp [Region.wanted, yielded]; done))
                · rintro w' ⟨s0, s1, s2, _⟩
                  go_simp
                  try rfl
                intro K hK
                go_simp
                refine hK _ ?_
                clear hK K
                apply wpSeqV_takeK _ (by first | rfl | (simp [Region.wanted, yielded]; done))
                · rintro w' ⟨s0, s1, s2, _⟩
                  go_simp
                  try rfl
                intro K hK
                go_simp
                refine hK _ ?_
                clear hK K
                apply wpSeqV_takeK _ (by first | rfl | (simp [Region.wanted, yielded]; done))
                · rintro w' ⟨s0, s1, s2, _⟩
                  go_simp
                  try rfl
                intro K hK
                go_simp
                refine hK _ ?_
                clear hK K
                apply wpSeqV_takeK _ (by first | rfl | (simp [Region.wanted, yielded]; done))
                · rintro w' ⟨s0, s1, s2, _⟩
                  go_simp
                  try rfl
                intro K hK
                go_simp
                refine hK _ ?_
                clear hK K
                apply wpSeqV_takeK _ (by first | rfl | (simp [Region.wanted, yielded]; done))
                · rintro w' ⟨s0, s1, s2, _⟩
                  go_simp
                  try rfl
                intro K hK
                go_simp
                refine hK _ ?_
                clear hK K
                apply wpSeqV_takeK _ (by first | rfl | (simp [Region.wanted, yielded]; done))
                · rintro w' ⟨s0, s1, s2, _⟩
                  go_simp
                  try rfl
                intro K hK
                go_simp
                refine hK _ ?_
                clear hK K
                apply wpSeqV_takeK _ (by first | rfl | (simp [Region.wanted, yielded]; done))
                · rintro w' ⟨s0, s1, s2, _⟩
                  go_simp
                  try rfl
                intro K hK
                go_simp
                refine hK _ ?_
                clear hK K
                apply wpSeqV_takeK _ (by first | rfl | (simp [Region.wanted, yielded]; done))
                · rintro w' ⟨s0, s1, s2, _⟩
                  go_simp
                  try rfl
                intro K hK
                go_simp
                refine hK _ ?_
                clear hK K
                apply wpSeqV_takeK _ (by first | rfl | (simp [Region.wanted, yielded]; done))
                · rintro w' ⟨s0, s1, s2, _⟩
                  go_simp
                  try rfl
                intro K hK
                go_simp
                refine hK _ ?_
                clear hK K
                apply wpSeqV_takeK _ (by first | rfl | (simp [Region.wanted, yielded]; done))
                · rintro w' ⟨s0, s1, s2, _⟩
                  go_simp
                  try rfl
                intro K hK
                go_simp
                refine hK _ ?_
                clear hK K
                apply wpSeqV_takeK _ (by first | rfl | (simp [Region.wanted, yielded]; done))
                · rintro w' ⟨s0, s1, s2, _⟩
                  go_simp
                  try rfl
                intro K hK
                go_simp
                refine hK _ ?_
                clear hK K
                apply wpSeqV_takeK _ (by first | rfl | (simp [Region.wanted, yielded]; done))
                · rintro w' ⟨s0, s1, s2, _⟩
                  go_simp
                  try rfl
                intro K hK
                go_simp
                refine hK _ ?_
                clear hK K
                apply wpSeqV_takeK _ (by first | rfl | (simp [Region.wanted, yielded]; done))
                · rintro w' ⟨s0, s1, s2, _⟩
                  go_simp
                  try rfl
                intro K hK
                go_simp
                refine hK _ ?_
                clear hK K
                apply wpSeqV_takeK _ (by first | rfl | (simp [Region.wanted, yielded]; done))
                · rintro w' ⟨s0, s1, s2, _⟩
                  go_simp
                  try rfl
                intro K hK
                go_simp
                refine hK _ ?_
                clear hK K
                refine wpSeqV_takeK (.bool false) (by first | rfl | (simp [Region.wanted, yielded]; done)) ?_ ?_
                · rintro w' ⟨s0, s1, s2, _⟩
                  (go_simp <;> first | omega | simp [hne])
                intro K hK
                go_simp
                refine hK _ ?_
                clear hK K
                apply wpSeqV_takeK _ (by first | rfl | (simp [Region.wanted, yielded]; done))
                · rintro w' ⟨s0, s1, s2, _⟩
                  go_simp
                  try rfl
                intro K hK
                go_simp
                refine hK _ ?_
                clear hK K
                apply wpSeqV_takeK _ (by first | rfl | (simp [Region.wanted, yielded]; done))
                · rintro w' ⟨s0, s1, s2, _⟩
                  go_simp
                  try rfl
                intro K hK
                go_simp
                refine hK _ ?_
                clear hK K
                apply wpSeqV_takeK _ (by first | rfl | (simp [Region.wanted, yielded]; done))
                · rintro w' ⟨s0, s1, s2, _⟩
                  go_simp
                  try rfl
                intro K hK
                go_simp
                refine hK _ ?_
                clear hK K
                apply wpSeqV_takeK _ (by first | rfl | (simp [Region.wanted, yielded]; done))
                · rintro w' ⟨s0, s1, s2, _⟩
                  go_simp
                  try rfl
                intro K hK
                go_simp
                refine hK _ ?_
                clear hK K
                apply wpSeqV_takeK _ (by first | rfl | (simp [Region.wanted, yielded]; done))
                · rintro w' ⟨s0, s1, s2, _⟩
                  go_simp
                  try rfl
                intro K hK
                go_simp
                refine hK _ ?_
                clear hK K
                apply wpSeqV_takeK _ (by first | rfl | (simp [Region.wanted, yielded]; done))
                · rintro w' ⟨s0, s1, s2, _⟩
                  go_simp
                  try rfl
                intro K hK
                go_simp
                refine hK _ ?_
                clear hK K
                refine wpSeqV_takeK (.string ⟨l.toArray⟩) (by first | rfl | (simp [Region.wanted, yielded]; done)) ?_ ?_
                · rintro w' ⟨s0, s1, s2, _⟩
                  exact exec_text rfl rfl s1
                intro K hK
                go_simp
                refine hK _ ?_
                clear hK K
                apply wpSeqV_takeK _ (by first | rfl | (simp [Region.wanted, yielded]; done))
                · rintro w' ⟨s0, s1, s2, _⟩
                  go_simp
                  try rfl
                intro K hK
                go_simp
                refine hK _ ?_
                clear hK K
                refine wpSeqV_takeK (.string ⟨l.toArray⟩) (by first | rfl | (simp [Region.wanted, yielded]; done)) ?_ ?_
                · rintro w' ⟨s0, s1, s2, _⟩
                  exact exec_text rfl rfl s2
                intro K hK
                go_simp
                refine hK _ ?_
                clear hK K
                refine wpSeqV_takeK (.bool true) (by first | rfl | (simp [Region.wanted, yielded]; done)) ?_ ?_
                · rintro w' ⟨s0, s1, s2, _⟩
                  (rw [exec_eqlText (l := l) (m := l) rfl rfl rfl]; simp)
                intro K hK
                go_simp
                refine hK _ ?_
                clear hK K
                apply wpSeqV_takeK _ (by first | rfl | (simp [Region.wanted, yielded]; done))
                · rintro w' ⟨s0, s1, s2, _⟩
                  go_simp
                  try rfl
                intro K hK
                go_simp
                refine hK _ ?_
                clear hK K
                apply wpSeqV_takeK _ (by first | rfl | (simp [Region.wanted, yielded]; done))
                · rintro w' ⟨s0, s1, s2, _⟩
                  go_simp
                  try rfl
                intro K hK
                go_simp
                refine hK _ ?_
                clear hK K
                apply wpSeqV_takeK _ (by first | rfl | (simp [Region.wanted, yielded]; done))
                · rintro w' ⟨s0, s1, s2, _⟩
                  go_simp
                  try rfl
                intro K hK
                go_simp
                refine hK _ ?_
                clear hK K
                refine wpSeqV_end ?_
                go_wp2
                go_ret
                exact ⟨rfl, HB0.out.trans (HB9.out.mono (Nat.le_of_lt HSZ.out))⟩
              · clear hA1 hbad
                refine wp_region_V (fun w' => (w'.cell? ⟨w.heap.size, 1, none⟩ = some (.int .i64 keep)) ∧ (True))
                  [(true, 0), (true, 1), (true, 2), (true, 3), (false, 4), (true, 5), (true, 6), (true, 7), (true, 8), (true, 9), (true, 10), (true, 11), (true, 12), (true, 13)] (by kernel_rfl) (by kernel_rfl) rfl (by kernel_rfl) ?_ ?_
                · exact ⟨by exact HC1.out, trivial⟩
                simp only [List.filterMap_cons, List.filterMap_nil, List.getElem?_cons_succ, List.getElem?_cons_zero, Option.map_some]
                apply wpSeqV_takeK _ (by first | rfl | (simp [Region.wanted, yielded]; done))
                · rintro w' ⟨s0, _⟩
                  go_simp
                  try rfl
                intro K hK
                go_simp
                refine hK _ ?_
                clear hK K
                apply wpSeqV_takeK _ (by first | rfl | (simp [Region.wanted, yielded]; done))
                · rintro w' ⟨s0, _⟩
                  go_simp
                  try rfl
                intro K hK
                go_simp
                refine hK _ ?_
                clear hK K
                apply wpSeqV_takeK _ (by first | rfl | (simp [Region.wanted, yielded]; done))
                · rintro w' ⟨s0, _⟩
                  go_simp
                  try rfl
                intro K hK
                go_simp
                refine hK _ ?_
                clear hK K
                apply wpSeqV_takeK _ (by first | rfl | (simp [Region.wanted, yielded]; done))
                · rintro w' ⟨s0, _⟩
                  go_simp
                  try rfl
                intro K hK
                go_simp
                refine hK _ ?_
                clear hK K
                refine wpSeqV_alone ?_
                focus (go_wp2_with (go_at_call 14; refine (need_any (l.length : Int) _).mono ?_; rintro e w8 ⟨rfl, rfl⟩; rw [need_nat]))
                refine QV_normal (fun w' => (w'.cell? ⟨w.heap.size, 1, none⟩ = some (.int .i64 keep)) ∧ (True)) (by rintro w' ⟨s0, _⟩; exact ⟨s0, trivial⟩) ⟨by exact HC1.out, trivial⟩ (fun _ => ?_)
                refine wpSeqV_takeK (.bool false) (by first | rfl | (simp [Region.wanted, yielded]; done)) ?_ ?_
                · rintro w' ⟨s0, _⟩
                  (go_simp <;> first | omega | simp [hkn])
                intro K hK
                go_simp
                refine hK _ ?_
                clear hK K
                apply wpSeqV_takeK _ (by first | rfl | (simp [Region.wanted, yielded]; done))
                · rintro w' ⟨s0, _⟩
                  go_simp
                  try rfl
                intro K hK
                go_simp
                refine hK _ ?_
                clear hK K
                refine wpSeqV_skipT (by first | rfl | (simp [Region.wanted, yielded]; done)) ?_
                intro K hK
                go_simp
                refine hK _ ?_
                clear hK K
                refine wpSeqV_skipT (by first | rfl | (simp [Region.wanted, yielded]; done)) ?_
                intro K hK
                go_simp
                refine hK _ ?_
                clear hK K
                refine wpSeqV_skipT (by first | rfl | (simp [Region.wanted, yielded]; done)) ?_
                intro K hK
                go_simp
                refine hK _ ?_
                clear hK K
                refine wpSeqV_skipT (by first | rfl | (simp [Region.wanted, yielded]; done)) ?_
                intro K hK
                go_simp
                refine hK _ ?_
                clear hK K
                refine wpSeqV_skipT (by first | rfl | (simp [Region.wanted, yielded]; done)) ?_
                intro K hK
                go_simp
                refine hK _ ?_
                clear hK K
                refine wpSeqV_skipT (by first | rfl | (simp [Region.wanted, yielded]; done)) ?_
                intro K hK
                go_simp
                refine hK _ ?_
                clear hK K
                apply wpSeqV_takeK _ (by first | rfl | (simp [Region.wanted, yielded]; done))
                · rintro w' ⟨s0, _⟩
                  go_simp
                  try rfl
                intro K hK
                go_simp
                refine hK _ ?_
                clear hK K
                refine wpSeqV_end ?_
                go_wp2
                have HR6 := Lib.hid (HR6.out.below (Below.refl _ w7.drew).drew)
                have HR9 := Lib.hid (HR9.out.below (Below.refl _ w7.drew).drew)
                have HB9 := Lib.hid HB9.out.drew
                have HCL := Lib.hid (((Below.refl _ w7.drew).drew.cell (World.block_lt_of_cell? _ _ HCL.out)).trans HCL.out)
                have HI1 := Lib.hid (HI1.out.below (Below.refl _ w7.drew).drew)
                have HI2 := Lib.hid (HI2.out.below (Below.refl _ w7.drew).drew)
                refine wp_region_V (fun w' => (w'.cell? ⟨b9, o9 + rs.length, none⟩ = some (.slice ya l.length yc)) ∧ (IsB w' (.slice ya l.length yc) l) ∧ (IsB w' (.slice (some ⟨sb, so, none⟩) l.length c) l) ∧ (True))
                  [(false, 0), (true, 1), (true, 2), (true, 3), (false, 4), (true, 5), (true, 6), (true, 7), (true, 8), (true, 9), (true, 10), (true, 11), (true, 12), (true, 13), (true, 14), (true, 15), (true, 16), (true, 17), (true, 18), (true, 19), (true, 20), (true, 21), (true, 22), (true, 23), (true, 24), (true, 25), (true, 26), (true, 27), (true, 28), (true, 29), (true, 30), (true, 31), (true, 32)] (by kernel_rfl) (by kernel_rfl) rfl (by kernel_rfl) ?_ ?_
                · exact ⟨by first | exact HCL.out | exact HI1.out | exact HI2.out, by first | exact HCL.out | exact HI1.out | exact HI2.out, by first | exact HCL.out | exact HI1.out | exact HI2.out, trivial⟩
                simp only [List.filterMap_cons, List.filterMap_nil, List.getElem?_cons_succ, List.getElem?_cons_zero, Option.map_some]
                refine wpSeqV_alone ?_
                focus (go_wp2_with (go_at_call 11; refine (live_any _).mono ?_; rintro e w9 ⟨rfl, hb⟩; have HCL := Lib.hid ((hb.cell (World.block_lt_of_cell? _ _ HCL.out)).trans HCL.out); have HI1 := Lib.hid (HI1.out.below hb); have HI2 := Lib.hid (HI2.out.below hb); have HR6 := Lib.hid (HR6.out.below hb); have HR9 := Lib.hid (HR9.out.below hb); have HB9 := Lib.hid (HB9.out.trans (hb.mono HB9.out.size)); clear hb))
                refine QV_normal (fun w' => (w'.cell? ⟨b9, o9 + rs.length, none⟩ = some (.slice ya l.length yc)) ∧ (IsB w' (.slice ya l.length yc) l) ∧ (IsB w' (.slice (some ⟨sb, so, none⟩) l.length c) l) ∧ (True)) (by rintro w' ⟨s0, s1, s2, _⟩; exact ⟨s0, s1, s2, trivial⟩) ⟨by first | exact HCL.out | exact HI1.out | exact HI2.out, by first | exact HCL.out | exact HI1.out | exact HI2.out, by first | exact HCL.out | exact HI1.out | exact HI2.out, trivial⟩ (fun _ => ?_)
                apply wpSeqV_takeK _ (by first | rfl | (simp [Region.wanted, yielded]; done))
                · rintro w' ⟨s0, s1, s2, _⟩
                  go_simp
                  try rfl
                intro K hK
                go_simp
                refine hK _ ?_
                clear hK K
                apply wpSeqV_takeK _ (by first | rfl | (simp [Region.wanted, yielded]; done))
                · rintro w' ⟨s0, s1, s2, _⟩
                  go_simp
                  try rfl
                intro K hK
                go_simp
                refine hK _ ?_
                clear hK K
                apply wpSeqV_takeK _ (by first | rfl | (simp [Region.wanted, yielded]; done))
                · rintro w' ⟨s0, s1, s2, _⟩
                  go_simp
                  try rfl
                intro K hK
                go_simp
                refine hK _ ?_
                clear hK K
                refine wpSeqV_alone ?_
                focus (go_wp2_with (go_at_call 21; refine (begins_any rs (rs ++ [l]) rs.length (rs.length + 1) rfl (by simp) _ _ _ _ _ (by omega) (by omega) HCap.out HR6.out HR9.out).mono ?_; rintro e w10 ⟨rfl, hb⟩; rw [decide_eq_true (List.prefix_append rs [l])]; have HCL := Lib.hid ((hb.cell (World.block_lt_of_cell? _ _ HCL.out)).trans HCL.out); have HI1 := Lib.hid (HI1.out.below hb); have HI2 := Lib.hid (HI2.out.below hb); have HB9 := Lib.hid (HB9.out.trans (hb.mono HB9.out.size)); clear hb))
                refine QV_normal (fun w' => (w'.cell? ⟨b9, o9 + rs.length, none⟩ = some (.slice ya l.length yc)) ∧ (IsB w' (.slice ya l.length yc) l) ∧ (IsB w' (.slice (some ⟨sb, so, none⟩) l.length c) l) ∧ (True)) (by rintro w' ⟨s0, s1, s2, _⟩; exact ⟨s0, s1, s2, trivial⟩) ⟨by first | exact HCL.out | exact HI1.out | exact HI2.out, by first | exact HCL.out | exact HI1.out | exact HI2.out, by first | exact HCL.out | exact HI1.out | exact HI2.out, trivial⟩ (fun _ => ?_)
                apply wpSeqV_takeK _ (by first | rfl | (simp [Region.wanted, yielded]; done))
                · rintro w' ⟨s0, s1, s2, _⟩
                  go_simp
                  try rfl
                intro K hK
                go_simp
                refine hK _ ?_
                clear hK K
                apply wpSeqV_takeK _ (by first | rfl | (simp [Region.wanted, yielded]; done))
                · rintro w' ⟨s0, s1, s2, _⟩
                  go_simp
                  try rfl
                intro K hK
                go_simp
                refine hK _ ?_
                clear hK K
                apply wpSeqV_takeK _ (by first | rfl | (simp [Region.wanted, yielded]; done))
                · rintro w' ⟨s0, s1, s2, _⟩
                  go_simp
                  try rfl
                intro K hK
                go_simp
                refine hK _ ?_
                clear hK K
                apply wpSeqV_takeK _ (by first | rfl | (simp [Region.wanted, yielded]; done))
                · rintro w' ⟨s0, s1, s2, _⟩
                  go_simp
                  try rfl
                intro K hK
                go_simp
                refine hK _ ?_
                clear hK K
                apply wpSeqV_takeK _ (by first | rfl | (simp [Region.wanted, yielded]; done))
                · rintro w' ⟨s0, s1, s2, _⟩
                  go_simp
                  try rfl
                intro K hK
                go_simp
                refine hK _ ?_
                clear hK K
                apply wpSeqV_takeK _ (by first | rfl | (simp [Region.wanted, yielded]; done))
                · rintro w' ⟨s0, s1, s2, _⟩
                  go_simp
                  try rfl
                intro K hK
                go_simp
                refine hK _ ?_
                clear hK K
                apply wpSeqV_takeK _ (by first | rfl | (simp [Region.wanted, yielded]; done))
                · rintro w' ⟨s0, s1, s2, _⟩
                  go_simp
                  try rfl
                intro K hK
                go_simp
                refine hK _ ?_
                clear hK K
                apply wpSeqV_takeK _ (by first | rfl | (simp [Region.wanted, yielded]; done))
                · rintro w' ⟨s0, s1, s2, _⟩
                  go_simp
                  try rfl
                intro K hK
                go_simp
                refine hK _ ?_
                clear hK K
                apply wpSeqV_takeK _ (by first | rfl | (simp [Region.wanted, yielded]; done))
                · rintro w' ⟨s0, s1, s2, _⟩
                  go_simp
                  try rfl
                intro K hK
                go_simp
                refine hK _ ?_
                clear hK K
                apply wpSeqV_takeK _ (by first | rfl | (simp [Region.wanted, yielded]; done))
                · rintro w' ⟨s0, s1, s2, _⟩
                  go_simp
                  try rfl
                intro K hK
                go_simp
                refine hK _ ?_
                clear hK K
                apply wpSeqV_takeK _ (by first | rfl | (simp [Region.wanted, yielded]; done))
                · rintro w' ⟨s0, s1, s2, _⟩
                  go_simp
                  try rfl
                intro K hK
                go_simp
                refine hK _ ?_
                clear hK K
                apply wpSeqV_takeK _ (by first | rfl | (simp [Region.wanted, yielded]; done))
                · rintro w' ⟨s0, s1, s2, _⟩
                  go_simp
                  try rfl
                intro K hK
                go_simp
                refine hK _ ?_
                clear hK K
                apply wpSeqV_takeK _ (by first | rfl | (simp [Region.wanted, yielded]; done))
                · rintro w' ⟨s0, s1, s2, _⟩
                  go_simp
                  try rfl
                intro K hK
                go_simp
                refine hK _ ?_
                clear hK K
                apply wpSeqV_takeK _ (by first | rfl | (simp [Region.wanted, yielded]; done))
                · rintro w' ⟨s0, s1, s2, _⟩
                  go_simp
                  try rfl
                intro K hK
                go_simp
                refine hK _ ?_
                clear hK K
                refine wpSeqV_takeK (.bool false) (by first | rfl | (simp [Region.wanted, yielded]; done)) ?_ ?_
                · rintro w' ⟨s0, s1, s2, _⟩
                  (go_simp <;> first | omega | simp [hne])
                intro K hK
                go_simp
                refine hK _ ?_
                clear hK K
                apply wpSeqV_takeK _ (by first | rfl | (simp [Region.wanted, yielded]; done))
                · rintro w' ⟨s0, s1, s2, _⟩
                  go_simp
                  try rfl
                intro K hK
                go_simp
                refine hK _ ?_
                clear hK K
                apply wpSeqV_takeK _ (by first | rfl | (simp [Region.wanted, yielded]; done))
                · rintro w' ⟨s0, s1, s2, _⟩
                  go_simp
                  try rfl
                intro K hK
                go_simp
                refine hK _ ?_
                clear hK K
                apply wpSeqV_takeK _ (by first | rfl | (simp [Region.wanted, yielded]; done))
                · rintro w' ⟨s0, s1, s2, _⟩
                  go_simp
                  try rfl
                intro K hK
                go_simp
                refine hK _ ?_
                clear hK K
                apply wpSeqV_takeK _ (by first | rfl | (simp [Region.wanted, yielded]; done))
                · rintro w' ⟨s0, s1, s2, _⟩
                  go_simp
                  try rfl
                intro K hK
                go_simp
                refine hK _ ?_
                clear hK K
                apply wpSeqV_takeK _ (by first | rfl | (simp [Region.wanted, yielded]; done))
                · rintro w' ⟨s0, s1, s2, _⟩
                  go_simp
                  try rfl
                intro K hK
                go_simp
                refine hK _ ?_
                clear hK K
                apply wpSeqV_takeK _ (by first | rfl | (simp [Region.wanted, yielded]; done))
                · rintro w' ⟨s0, s1, s2, _⟩
                  go_simp
                  try rfl
                intro K hK
                go_simp
                refine hK _ ?_
                clear hK K
                refine wpSeqV_takeK (.string ⟨l.toArray⟩) (by first | rfl | (simp [Region.wanted, yielded]; done)) ?_ ?_
                · rintro w' ⟨s0, s1, s2, _⟩
                  exact exec_text rfl rfl s1
                intro K hK
                go_simp
                refine hK _ ?_
                clear hK K
                apply wpSeqV_takeK _ (by first | rfl | (simp [Region.wanted, yielded]; done))
                · rintro w' ⟨s0, s1, s2, _⟩
                  go_simp
                  try rfl
                intro K hK
                go_simp
                refine hK _ ?_
                clear hK K
                refine wpSeqV_takeK (.string ⟨l.toArray⟩) (by first | rfl | (simp [Region.wanted, yielded]; done)) ?_ ?_
                · rintro w' ⟨s0, s1, s2, _⟩
                  exact exec_text rfl rfl s2
                intro K hK
                go_simp
                refine hK _ ?_
                clear hK K
                refine wpSeqV_takeK (.bool true) (by first | rfl | (simp [Region.wanted, yielded]; done)) ?_ ?_
                · rintro w' ⟨s0, s1, s2, _⟩
                  (rw [exec_eqlText (l := l) (m := l) rfl rfl rfl]; simp)
                intro K hK
                go_simp
                refine hK _ ?_
                clear hK K
                apply wpSeqV_takeK _ (by first | rfl | (simp [Region.wanted, yielded]; done))
                · rintro w' ⟨s0, s1, s2, _⟩
                  go_simp
                  try rfl
                intro K hK
                go_simp
                refine hK _ ?_
                clear hK K
                apply wpSeqV_takeK _ (by first | rfl | (simp [Region.wanted, yielded]; done))
                · rintro w' ⟨s0, s1, s2, _⟩
                  go_simp
                  try rfl
                intro K hK
                go_simp
                refine hK _ ?_
                clear hK K
                apply wpSeqV_takeK _ (by first | rfl | (simp [Region.wanted, yielded]; done))
                · rintro w' ⟨s0, s1, s2, _⟩
                  go_simp
                  try rfl
                intro K hK
                go_simp
                refine hK _ ?_
                clear hK K
                refine wpSeqV_end ?_
                go_wp2
                go_ret
                exact ⟨rfl, HB0.out.trans (HB9.out.mono (Nat.le_of_lt HSZ.out))⟩
            · go_wp2_with (go_at_call 19; refine (records_log _ _ p _ _ _ _ 200 rs HL6.out (parsed_none rfl HG.out hno)).mono ?_; rintro e w7 ⟨u9, rfl, ho, hb⟩; obtain ⟨a9, c9, rfl⟩ := ho.lv; have HCap := Lib.hid (rows_cap ho); have HR9 := Lib.hid ho.rd.1; have HR6 := Lib.hid (HO6.out.below hb).rd.1; have HB9 := Lib.hid (HB6.out.trans (hb.mono HB6.out.size)); have HC1 := Lib.hid (cells_of_block ((HB9.out.block _ HSZ.out).trans HBX.out) 1 _ rfl).1; clear ho hb HL6 HB6 HO6)
              have hkn : ¬ (needN l.length : Int) ≤ keep := by omega
              have hlt : (rs.length : Int) ≤ (rs.length : Int) + 1 := by omega
              clear hA1 hbad hk hno
              have HR6 := Lib.hid (HR6.out.below (Below.refl _ w7).drew)
              have HR9 := Lib.hid (HR9.out.below (Below.refl _ w7).drew)
              have HB9 := Lib.hid HB9.out.drew
              have HC1 := Lib.hid (((Below.refl _ w7).drew.cell (World.block_lt_of_cell? _ _ HC1.out)).trans HC1.out)
              refine wp_region_V (fun w' => (w'.cell? ⟨w.heap.size, 1, none⟩ = some (.int .i64 keep)) ∧ (True))
                [(true, 0), (true, 1), (true, 2), (true, 3), (false, 4), (true, 5), (true, 6), (true, 7), (true, 8), (true, 9), (true, 10), (true, 11), (true, 12), (true, 13)] (by kernel_rfl) (by kernel_rfl) rfl (by kernel_rfl) ?_ ?_
              · exact ⟨by exact HC1.out, trivial⟩
              simp only [List.filterMap_cons, List.filterMap_nil, List.getElem?_cons_succ, List.getElem?_cons_zero, Option.map_some]
              apply wpSeqV_takeK _ (by first | rfl | (simp [Region.wanted, yielded]; done))
              · rintro w' ⟨s0, _⟩
                go_simp
                try rfl
              intro K hK
              go_simp
              refine hK _ ?_
              clear hK K
              apply wpSeqV_takeK _ (by first | rfl | (simp [Region.wanted, yielded]; done))
              · rintro w' ⟨s0, _⟩
                go_simp
                try rfl
              intro K hK
              go_simp
              refine hK _ ?_
              clear hK K
              apply wpSeqV_takeK _ (by first | rfl | (simp [Region.wanted, yielded]; done))
              · rintro w' ⟨s0, _⟩
                go_simp
                try rfl
              intro K hK
              go_simp
              refine hK _ ?_
              clear hK K
              apply wpSeqV_takeK _ (by first | rfl | (simp [Region.wanted, yielded]; done))
              · rintro w' ⟨s0, _⟩
                go_simp
                try rfl
              intro K hK
              go_simp
              refine hK _ ?_
              clear hK K
              refine wpSeqV_alone ?_
              focus (go_wp2_with (go_at_call 14; refine (need_any (l.length : Int) _).mono ?_; rintro e w8 ⟨rfl, rfl⟩; rw [need_nat]))
              refine QV_normal (fun w' => (w'.cell? ⟨w.heap.size, 1, none⟩ = some (.int .i64 keep)) ∧ (True)) (by rintro w' ⟨s0, _⟩; exact ⟨s0, trivial⟩) ⟨by exact HC1.out, trivial⟩ (fun _ => ?_)
              refine wpSeqV_takeK (.bool false) (by first | rfl | (simp [Region.wanted, yielded]; done)) ?_ ?_
              · rintro w' ⟨s0, _⟩
                (go_simp <;> first | omega | simp [hkn])
              intro K hK
              go_simp
              refine hK _ ?_
              clear hK K
              apply wpSeqV_takeK _ (by first | rfl | (simp [Region.wanted, yielded]; done))
              · rintro w' ⟨s0, _⟩
                go_simp
                try rfl
              intro K hK
              go_simp
              refine hK _ ?_
              clear hK K
              refine wpSeqV_skipT (by first | rfl | (simp [Region.wanted, yielded]; done)) ?_
              intro K hK
              go_simp
              refine hK _ ?_
              clear hK K
              refine wpSeqV_skipT (by first | rfl | (simp [Region.wanted, yielded]; done)) ?_
              intro K hK
              go_simp
              refine hK _ ?_
              clear hK K
              refine wpSeqV_skipT (by first | rfl | (simp [Region.wanted, yielded]; done)) ?_
              intro K hK
              go_simp
              refine hK _ ?_
              clear hK K
              refine wpSeqV_skipT (by first | rfl | (simp [Region.wanted, yielded]; done)) ?_
              intro K hK
              go_simp
              refine hK _ ?_
              clear hK K
              refine wpSeqV_skipT (by first | rfl | (simp [Region.wanted, yielded]; done)) ?_
              intro K hK
              go_simp
              refine hK _ ?_
              clear hK K
              refine wpSeqV_skipT (by first | rfl | (simp [Region.wanted, yielded]; done)) ?_
              intro K hK
              go_simp
              refine hK _ ?_
              clear hK K
              apply wpSeqV_takeK _ (by first | rfl | (simp [Region.wanted, yielded]; done))
              · rintro w' ⟨s0, _⟩
                go_simp
                try rfl
              intro K hK
              go_simp
              refine hK _ ?_
              clear hK K
              refine wpSeqV_end ?_
              go_wp2
              have HR6 := Lib.hid (HR6.out.below (Below.refl _ w7.drew).drew)
              have HR9 := Lib.hid (HR9.out.below (Below.refl _ w7.drew).drew)
              have HB9 := Lib.hid HB9.out.drew
              refine wp_region_V (fun w' => (True))
                [(false, 0), (true, 1), (true, 2), (true, 3), (false, 4), (true, 5), (true, 6), (true, 7), (true, 8), (true, 9), (true, 10), (true, 11), (true, 12), (true, 13), (true, 14), (true, 15), (true, 16), (true, 17), (true, 18), (true, 19), (true, 20), (true, 21), (true, 22), (true, 23), (true, 24), (true, 25), (true, 26), (true, 27), (true, 28), (true, 29), (true, 30), (true, 31), (true, 32)] (by kernel_rfl) (by kernel_rfl) rfl (by kernel_rfl) ?_ ?_
              · exact trivial
              simp only [List.filterMap_cons, List.filterMap_nil, List.getElem?_cons_succ, List.getElem?_cons_zero, Option.map_some]
              refine wpSeqV_alone ?_
              focus (go_wp2_with (go_at_call 11; refine (live_any _).mono ?_; rintro e w9 ⟨rfl, hb⟩; have HR6 := Lib.hid (HR6.out.below hb); have HR9 := Lib.hid (HR9.out.below hb); have HB9 := Lib.hid (HB9.out.trans (hb.mono HB9.out.size)); clear hb))
              refine QV_normal (fun w' => (True)) (by rintro w' _; exact trivial) trivial (fun _ => ?_)
              apply wpSeqV_takeK _ (by first | rfl | (simp [Region.wanted, yielded]; done))
              · rintro w' _
                go_simp
                try rfl
              intro K hK
              go_simp
              refine hK _ ?_
              clear hK K
              apply wpSeqV_takeK _ (by first | rfl | (simp [Region.wanted, yielded]; done))
              · rintro w' _
                go_simp
                try rfl
              intro K hK
              go_simp
              refine hK _ ?_
              clear hK K
              apply wpSeqV_takeK _ (by first | rfl | (simp [Region.wanted, yielded]; done))
              · rintro w' _
                go_simp
                try rfl
              intro K hK
              go_simp
              refine hK _ ?_
              clear hK K
              refine wpSeqV_alone ?_
              focus (go_wp2_with (go_at_call 21; refine (begins_any rs rs rs.length rs.length rfl rfl _ _ _ _ _ (by omega) (by omega) HCap.out HR6.out HR9.out).mono ?_; rintro e w10 ⟨rfl, hb⟩; rw [decide_eq_true (List.prefix_refl rs)]; have HB9 := Lib.hid (HB9.out.trans (hb.mono HB9.out.size)); clear hb))
              refine QV_normal (fun w' => (True)) (by rintro w' _; exact trivial) trivial (fun _ => ?_)
              apply wpSeqV_takeK _ (by first | rfl | (simp [Region.wanted, yielded]; done))
              · rintro w' _
                go_simp
                try rfl
              intro K hK
              go_simp
              refine hK _ ?_
              clear hK K
              apply wpSeqV_takeK _ (by first | rfl | (simp [Region.wanted, yielded]; done))
              · rintro w' _
                go_simp
                try rfl
              intro K hK
              go_simp
              refine hK _ ?_
              clear hK K
              apply wpSeqV_takeK _ (by first | rfl | (simp [Region.wanted, yielded]; done))
              · rintro w' _
                go_simp
                try rfl
              intro K hK
              go_simp
              refine hK _ ?_
              clear hK K
              apply wpSeqV_takeK _ (by first | rfl | (simp [Region.wanted, yielded]; done))
              · rintro w' _
                go_simp
                try rfl
              intro K hK
              go_simp
              refine hK _ ?_
              clear hK K
              apply wpSeqV_takeK _ (by first | rfl | (simp [Region.wanted, yielded]; done))
              · rintro w' _
                go_simp
                try rfl
              intro K hK
              go_simp
              refine hK _ ?_
              clear hK K
              apply wpSeqV_takeK _ (by first | rfl | (simp [Region.wanted, yielded]; done))
              · rintro w' _
                go_simp
                try rfl
              intro K hK
              go_simp
              refine hK _ ?_
              clear hK K
              apply wpSeqV_takeK _ (by first | rfl | (simp [Region.wanted, yielded]; done))
              · rintro w' _
                go_simp
                try rfl
              intro K hK
              go_simp
              refine hK _ ?_
              clear hK K
              apply wpSeqV_takeK _ (by first | rfl | (simp [Region.wanted, yielded]; done))
              · rintro w' _
                go_simp
                try rfl
              intro K hK
              go_simp
              refine hK _ ?_
              clear hK K
              apply wpSeqV_takeK _ (by first | rfl | (simp [Region.wanted, yielded]; done))
              · rintro w' _
                go_simp
                try rfl
              intro K hK
              go_simp
              refine hK _ ?_
              clear hK K
              apply wpSeqV_takeK _ (by first | rfl | (simp [Region.wanted, yielded]; done))
              · rintro w' _
                go_simp
                try rfl
              intro K hK
              go_simp
              refine hK _ ?_
              clear hK K
              apply wpSeqV_takeK _ (by first | rfl | (simp [Region.wanted, yielded]; done))
              · rintro w' _
                go_simp
                try rfl
              intro K hK
              go_simp
              refine hK _ ?_
              clear hK K
              apply wpSeqV_takeK _ (by first | rfl | (simp [Region.wanted, yielded]; done))
              · rintro w' _
                go_simp
                try rfl
              intro K hK
              go_simp
              refine hK _ ?_
              clear hK K
              apply wpSeqV_takeK _ (by first | rfl | (simp [Region.wanted, yielded]; done))
              · rintro w' _
                go_simp
                try rfl
              intro K hK
              go_simp
              refine hK _ ?_
              clear hK K
              apply wpSeqV_takeK _ (by first | rfl | (simp [Region.wanted, yielded]; done))
              · rintro w' _
                go_simp
                try rfl
              intro K hK
              go_simp
              refine hK _ ?_
              clear hK K
              apply wpSeqV_takeK _ (by first | rfl | (simp [Region.wanted, yielded]; done))
              · rintro w' _
                go_simp
                try rfl
              intro K hK
              go_simp
              refine hK _ ?_
              clear hK K
              apply wpSeqV_takeK _ (by first | rfl | (simp [Region.wanted, yielded]; done))
              · rintro w' _
                go_simp
                try rfl
              intro K hK
              go_simp
              refine hK _ ?_
              clear hK K
              refine wpSeqV_skipT (by first | rfl | (simp [Region.wanted, yielded]; done)) ?_
              intro K hK
              go_simp
              refine hK _ ?_
              clear hK K
              refine wpSeqV_skipT (by first | rfl | (simp [Region.wanted, yielded]; done)) ?_
              intro K hK
              go_simp
              refine hK _ ?_
              clear hK K
              refine wpSeqV_skipT (by first | rfl | (simp [Region.wanted, yielded]; done)) ?_
              intro K hK
              go_simp
              refine hK _ ?_
              clear hK K
              refine wpSeqV_skipT (by first | rfl | (simp [Region.wanted, yielded]; done)) ?_
              intro K hK
              go_simp
              refine hK _ ?_
              clear hK K
              refine wpSeqV_skipT (by first | rfl | (simp [Region.wanted, yielded]; done)) ?_
              intro K hK
              go_simp
              refine hK _ ?_
              clear hK K
              refine wpSeqV_skipT (by first | rfl | (simp [Region.wanted, yielded]; done)) ?_
              intro K hK
              go_simp
              refine hK _ ?_
              clear hK K
              refine wpSeqV_skipT (by first | rfl | (simp [Region.wanted, yielded]; done)) ?_
              intro K hK
              go_simp
              refine hK _ ?_
              clear hK K
              refine wpSeqV_skipT (by first | rfl | (simp [Region.wanted, yielded]; done)) ?_
              intro K hK
              go_simp
              refine hK _ ?_
              clear hK K
              refine wpSeqV_skipT (by first | rfl | (simp [Region.wanted, yielded]; done)) ?_
              intro K hK
              go_simp
              refine hK _ ?_
              clear hK K
              apply wpSeqV_takeK _ (by first | rfl | (simp [Region.wanted, yielded]; done))
              · rintro w' _
                go_simp
                try rfl
              intro K hK
              go_simp
              refine hK _ ?_
              clear hK K
              apply wpSeqV_takeK _ (by first | rfl | (simp [Region.wanted, yielded]; done))
              · rintro w' _
                go_simp
                try rfl
              intro K hK
              go_simp
              refine hK _ ?_
              clear hK K
              apply wpSeqV_takeK _ (by first | rfl | (simp [Region.wanted, yielded]; done))
              · rintro w' _
                go_simp
                try rfl
              intro K hK
              go_simp
              refine hK _ ?_
              clear hK K
              refine wpSeqV_end ?_
              go_wp2
              go_ret
              exact ⟨rfl, HB0.out.trans (HB9.out.mono (Nat.le_of_lt HSZ.out))⟩

end Go.Proofs.Ytmkfiecdgghceaa
