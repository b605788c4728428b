/- Layer 5 (blocks): BlocksClean: the walk. -/
import Derived.Test.YtmkfiecdgghceaaD6
namespace Go.Proofs.Ytmkfiecdgghceaa
open Go.RowKit
set_option linter.unusedVariables false
set_option linter.unusedSimpArgs false

def sumN (rs : List Bs) : Nat := (rs.map fun r => needN r.length).sum
theorem sumN_take {rs : List Bs} {j : Nat} (h : j < rs.length) : sumN (rs.take (j + 1)) = sumN (rs.take j) + needN rs[j].length := by
  unfold sumN
  rw [List.take_succ_eq_append_getElem h, List.map_append, List.sum_append]
  simp only [List.map_cons, List.map_nil, List.sum_cons, List.sum_nil, Nat.add_zero]
theorem sumN_le (rs : List Bs) (j : Nat) : sumN (rs.take j) ≤ sumN rs := by
  have : sumN rs = sumN (rs.take j) + sumN (rs.drop j) := by
    unfold sumN
    rw [← List.sum_append, ← List.map_append, List.take_append_drop]
  omega
theorem OwnRows.keptF {w w' : World} {B : Nat} {v : Value} {rs : List Bs} {F : Nat → Prop} (h : OwnRows w B v rs) (hk : Keeps F w w') (hF : ∀ k, F k → k < B) : OwnRows w' B v rs :=
  h.kept fun k h1 h2 => hk.block k h2 (fun hf => by have := hF k hf; omega)
theorem OwnRows.below {w w' : World} {B : Nat} {v : Value} {rs : List Bs} (h : OwnRows w B v rs) (hb : Below w.heap.size w w') : OwnRows w' B v rs :=
  h.kept fun k _ h2 => hb.block k h2

set_option maxRecDepth 100000 in
set_option maxHeartbeats 4000000 in
theorem clean_walk (k : Int) (x : Value) (n : Nat) (w : World) (h0 : 0 ≤ k) (h1 : k ≤ 255) (h : ArgD w w.heap.size x n) :
    Calls Try.prog 8 #[.int .u8 k, x] w fun e w' => e = .returned (.bool true) ∧ Below w.heap.size w w' := by
  have H := play_any k h0 h1 x n w h
  obtain ⟨ao, c, rfl, _⟩ := h
  have hq0 : k.tmod 24 = k % 24 := Int.tmod_eq_emod_of_nonneg h0
  rw [hq0] at H
  obtain ⟨most, hM⟩ : ∃ most, (k % 24 + 1).toNat = most := ⟨_, rfl⟩
  rw [hM] at H
  have HM : Hid ((most : Int) = k % 24 + 1) := Lib.hid (by omega)
  have hq1 : 0 ≤ k % 24 := by omega
  have hq2 : k % 24 < 24 := by omega
  clear hM
  go_enter Try.func8, Try.ntmps8
  go_wp2_with (first | (go_at_call 22; refine H.mono ?_; clear H; rintro e w1 ⟨p, q, m, bs, last, rfl, hb, hs⟩; have HB := Lib.hid hb; obtain ⟨v, u, hL, _⟩ := hs; have HL := Lib.hid hL; clear hb hL; obtain ⟨rs, hrs⟩ := parsed_exists bs; have HRS := Lib.hid hrs; clear hrs) | (go_at_call 11; refine (live_any _).mono ?_; rintro e w2 ⟨rfl, hb⟩; have HB := Lib.hid (HB.out.trans (hb.mono HB.out.size)); have HL := Lib.hid (HL.out.below hb); clear hb) | (go_at_call 19; refine (records_log w2 _ p v m bs last most rs HL.out HRS.out).mono ?_; rintro e w3 ⟨u3, rfl, ho, hb⟩; obtain ⟨a3, c3, rfl⟩ := ho.lv; have HO := Lib.hid ho; have HP3 := Lib.hid (show ∀ i, (i = p ∨ v.ownBlock = some i) → i < w2.heap.size from fun i hi => by rcases hi with rfl | hi; exact HL.out.lt.1; exact (HL.out.lt.2 i hi).2); have HB := Lib.hid (HB.out.trans (hb.mono HB.out.size)); have HL := Lib.hid (HL.out.below hb); clear ho hb))
  have hsum : sumN rs ≤ 4096 := by
    obtain ⟨hg, rest, e, _⟩ := HRS.out
    have h2 := encs_length hg 0
    have h3 : (encs rs 0).length ≤ bs.length := by rw [e]; simp
    have h4 := HL.out.row.1
    have h5 := HL.out.hn
    have h6 := HL.out.hm
    unfold sumN
    omega
  have hrl : rs.length ≤ 4096 := by
    obtain ⟨hg, rest, e, _⟩ := HRS.out
    have h2 := count_le hg 0
    have h3 : (encs rs 0).length ≤ bs.length := by rw [e]; simp
    have h4 := HL.out.row.1
    have h5 := HL.out.hn
    have h6 := HL.out.hm
    omega
  go_loopw [9, 10] (fun s9 s10 wr => ∃ j : Nat, j ≤ rs.length ∧ s9 = .int .i64 (sumN (rs.take j) : Nat) ∧ s10 = .int .i64 (j : Nat) ∧ Hid (Below w3.heap.size w3 wr)) (fun _ s10 _ => rs.length - (intOf s10).toNat)
  case atStart => exact ⟨0, by omega, by simp [sumN], rfl, Lib.hid (Below.refl _ _)⟩
  case round =>
    obtain ⟨j, hj, rfl, rfl, hB⟩ := hrel
    by_cases hlt : j < rs.length
    · have hl1' : (j : Int) < rs.length := by omega
      obtain ⟨b, o, y, rfl, hc, hy⟩ := (HO.out.rd.1.below hB.out).at hlt
      have hy' := hy.rd
      obtain ⟨ya, yc, rfl, _⟩ := hy'
      have hle := sumN_le rs (j + 1)
      rw [sumN_take hlt] at hle
      have HST := Lib.hid (sumN_take hlt)
      have HND := Lib.hid (need_nat rs[j].length)
      have hov : (sumN (rs.take j) : Int) + (needN rs[j].length : Int) ≤ 9223372036854775807 := by omega
      generalize hln : rs[j].length = ln at *
      clear hln hy
      go_wp2_with fail
      refine (need_any (ln : Int) wr).mono ?_
      rintro e w4 ⟨rfl, rfl⟩
      rw [HND.out]
      go_wp2
      go_roundw
      case rel => exact ⟨j + 1, by omega, by rw [HST.out]; simp, by simp, hB⟩
      case measure => simp [intOf]; omega
    · have hje : j = rs.length := by omega
      subst hje
      rw [List.take_length]
      have hl1' : ¬ (rs.length : Int) < (rs.length : Int) := by omega
      have HB4 := Lib.hid (HB.out.trans (hB.out.mono HB.out.size))
      have HL4 := Lib.hid (HL.out.below hB.out)
      have HO4 := Lib.hid (HO.out.below hB.out)
      have hq : ((encs rs 0).length : Int) = (sumN rs : Int) * 64 := by
        have h2 := encs_length HRS.out.1 0
        unfold sumN
        omega
      have HQ := Lib.hid hq
      clear hB HB HL HO
      go_wp2_with (first | (go_at_call 23; refine (clean_any _ _ p v m bs last most rs HL4.out HRS.out).mono ?_; rintro e w5 hpost; obtain ⟨rfl, ⟨u5, n5, hn5, hl5⟩, hk5⟩ := cleanPost_log HL4.out.base hpost; have HN5 := Lib.hid hn5; have HL5 := Lib.hid hl5; have HO5 := Lib.hid (HO4.out.keptF hk5 HP3.out); have HB5 := Lib.hid (show Below w.heap.size w w5 from HB4.out.trans ⟨hk5.os, hk5.tape, hk5.output, hk5.size, fun i hi => hk5.block i (Nat.lt_of_lt_of_le hi HB4.out.size) (fun hf => by rcases hf with rfl | hf; exact absurd HL4.out.base (by omega); exact absurd (HL4.out.lt.2 i hf).1 (by omega))⟩); clear hn5 hl5 hk5 hpost) | (go_at_call 19; refine (records_log _ _ p _ _ _ _ most rs HL5.out (parsed_encs HRS.out.1)).mono ?_; rintro e w6 ⟨u6, rfl, ho, hb⟩; obtain ⟨a6, c6, rfl⟩ := ho.lv; have HR6 := Lib.hid ho.rd.1; have HR5 := Lib.hid (HO5.out.below hb).rd.1; have HB5 := Lib.hid (HB5.out.trans (hb.mono HB5.out.size)); have HL5 := Lib.hid (HL5.out.below hb); clear ho hb) | (go_at_call 25; refine (same_any rs rs rs.length rs.length rfl rfl _ _ _ _ _ (by omega) (by omega) HR5.out HR6.out).mono ?_; rintro e w7 ⟨rfl, hb⟩; rw [decide_eq_true (rfl : rs = rs)]; have HB5 := Lib.hid (HB5.out.trans (hb.mono HB5.out.size)); have HL5 := Lib.hid (HL5.out.below hb); clear hb) | (go_at_call 27; refine (bytes_any _ _ p _ _ _ _ most HL5.out).mono ?_; rintro e w8 ⟨u8, rfl, ho, hb⟩; obtain ⟨a8, c8, rfl⟩ := ho.lv; have HB5 := Lib.hid (HB5.out.trans (hb.mono HB5.out.size)); have HL5 := Lib.hid (HL5.out.below hb); clear ho hb) | (go_at_call 24; refine (free_any _ _ p _ _ _ _ most HL5.out).mono ?_; rintro e w9 ⟨rfl, hb⟩; rw [show ((most : Int) - (n5 : Int)) = k % 24 + 1 - (sumN rs : Int) from by have h1 := HQ.out; have h2 := HN5.out; have h3 := HM.out; omega]; have HB5 := Lib.hid (HB5.out.trans (hb.mono HB5.out.size)); clear hb))
      go_ret
      exact ⟨rfl, HB5.out⟩

end Go.Proofs.Ytmkfiecdgghceaa
