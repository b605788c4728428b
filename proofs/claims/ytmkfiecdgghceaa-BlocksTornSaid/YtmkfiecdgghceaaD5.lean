/- Layer 5 (blocks): BlocksAppends: the walk (printed by mkd5.py). -/
import Derived.Test.YtmkfiecdgghceaaD8
import Derived.Test.YtmkfiecdgghceaaP2
import Derived.Test.YtmkfiecdgghceaaRegV
namespace Go.Proofs.Ytmkfiecdgghceaa
open Go.RowKit
set_option linter.unusedVariables false
set_option linter.unusedSimpArgs false

theorem rows_cap {w : World} {B : Nat} {a : Option Addr} {n c : Nat} {rs : List Bs} (h : OwnRows w B (.slice a n c) rs) : n ≤ c := by
  obtain ⟨vs, _, h2, _⟩ := h
  obtain ⟨_, ⟨hv, h0⟩ | ⟨g, cap, cur, hv, _, _, hc, _⟩⟩ := h2
  · simp only [Value.slice.injEq] at hv; omega
  · simp only [Value.slice.injEq] at hv; omega
theorem below_log {w w1 w2 : World} {p n : Nat} {v : Value} {bs : Bs} {last most : Nat} (hb : Below w.heap.size w w1) (h : LogAt w1 w.heap.size p v n bs last most) (hk : Keeps (fun i => i = p ∨ v.ownBlock = some i) w1 w2) : Below w.heap.size w w2 :=
  hb.trans ⟨hk.os, hk.tape, hk.output, hk.size, fun i hi => hk.block i (Nat.lt_of_lt_of_le hi hb.size) (fun hf => by
    rcases hf with rfl | hf
    · exact absurd h.base (by omega)
    · exact absurd (h.lt.2 i hf).1 (by omega))⟩
theorem log_room {w : World} {B p n : Nat} {v : Value} {bs : Bs} {last most : Nat} {rs : List Bs} (h : LogAt w B p v n bs last most) (hr : Parsed bs rs) : rs.length ≤ 4096 := by
  obtain ⟨hg, rest, e, _⟩ := hr
  have h2 := count_le hg 0
  have h3 : (encs rs 0).length ≤ bs.length := by rw [e]; simp
  have h4 := h.row.1
  have h5 := h.hn
  have h6 := h.hm
  omega

set_option maxRecDepth 100000 in
set_option maxHeartbeats 4000000 in
theorem appends_all (k : Int) (x : Value) (n : Nat) (a : Option Addr) (c : Nat) (l : Bs) (w : World) (h0 : 0 ≤ k) (h1 : k ≤ 255) (h : ArgD w w.heap.size x n) (hx : ArgB w w.heap.size (.slice a l.length c) l) (hl : l.length ≤ 200) :
    Calls Try.prog 5 #[.int .u8 k, x, .slice a l.length c] w fun e w' => e = .returned (.bool true) ∧ Below w.heap.size w w' := by
  have H := play_any k h0 h1 x n w h
  obtain ⟨ao, cx, rfl, _⟩ := h
  have hq0 : k.tmod 24 = k % 24 := Int.tmod_eq_emod_of_nonneg h0
  rw [hq0] at H
  have hq1 : 0 ≤ k % 24 := by omega
  have hq2 : k % 24 < 24 := by omega
  generalize (k % 24 + 1).toNat = most at H
  have hlc : l.length ≤ c ∧ c ≤ 9223372036854775807 := by
    obtain ⟨a', c', hv, h1, h2⟩ := hx.lv
    simp only [Value.slice.injEq, true_and] at hv
    unfold maxLen at h2
    omega
  obtain ⟨hlc, hcm⟩ := hlc
  have t1 : ¬ (200 : Int) < (l.length : Int) := by omega
  have HX0 := hx
  clear hx
  obtain ⟨m, hml⟩ : ∃ m, m = l := ⟨_, rfl⟩
  rw [← hml] at HX0 t1 hl hlc ⊢
  clear hml
  generalize hm : m.length = L at HX0 t1 hl hlc ⊢
  have HX := Lib.hid HX0
  clear HX0
  have HND := Lib.hid (need_nat L)
  go_enter Try.func5, Try.ntmps5
  go_wp2_with (first | (go_at_call 22; refine H.mono ?_; clear H; rintro e w1 ⟨p, q, m1, bs, last, rfl, hb, hs⟩; have HB := Lib.hid hb; obtain ⟨v, u, hL, _⟩ := hs; have HL := Lib.hid hL; clear hb hL; obtain ⟨rs, hrs⟩ := parsed_exists bs; have HRS := Lib.hid hrs; clear hrs) | (go_at_call 11; refine (live_any _).mono ?_; rintro e w2 ⟨rfl, hb⟩; have HB := Lib.hid (HB.out.trans (hb.mono HB.out.size)); have HL := Lib.hid (HL.out.below hb); clear hb) | (go_at_call 23; refine (clean_any _ _ p v m1 bs last most rs HL.out HRS.out).mono ?_; rintro e w5 hpost; obtain ⟨rfl, ⟨u5, n5, hn5, hl5⟩, hk5⟩ := cleanPost_log HL.out.base hpost; have HB5 := Lib.hid (below_log HB.out HL.out hk5); have HL5 := Lib.hid hl5; have HG := Lib.hid (HRS.out.1); have hrl := log_room hl5 (parsed_encs HRS.out.1); have hn5m := hl5.hn; have hm5 := hl5.hm; clear hl5 hk5 hpost HL HB) | (go_at_call 19; refine (records_log _ _ p _ _ _ _ most rs HL5.out (parsed_encs HG.out)).mono ?_; rintro e w6 ⟨u6, rfl, ho, hb⟩; obtain ⟨a6, c6, rfl⟩ := ho.lv; have HO6 := Lib.hid ho; have HP6 := Lib.hid (show ∀ i, (i = p ∨ u5.ownBlock = some i) → i < w5.heap.size from fun i hi => by rcases hi with rfl | hi; exact HL5.out.lt.1; exact (HL5.out.lt.2 i hi).2); have HB6 := Lib.hid (HB5.out.trans (hb.mono HB5.out.size)); have HL6 := Lib.hid (HL5.out.below hb); clear ho hb HL5 HB5) | (go_at_call 24; refine (free_any _ _ p _ _ _ _ most HL6.out).mono ?_; rintro e w7 ⟨rfl, hb⟩; have HB7 := Lib.hid (HB6.out.trans (hb.mono HB6.out.size)); have HO7 := Lib.hid (HO6.out.below hb); have HL7 := Lib.hid (HL6.out.below hb); clear hb HL6 HB6 HO6))
  by_cases hA : m.length < 1
  · have hF : appF most n5 (encs rs 0) rs.length m = (3, n5, encs rs 0) := by unfold appF; rw [if_pos (.inl hA)]
    have hLz : L = 0 := by omega
    have hi : (L : Int) = 0 := by omega
    have HZ := Lib.hid (show need 0 = 0 by decide)
    refine (append_gen _ _ p _ n5 _ n5 most rs HL7.out (parsed_encs HG.out) _ m (HX.out.kept (Keeps.of_below' HB7.out)).isB (by unfold maxLen; omega)).mono ?_; rw [hF]; rintro e w8 ⟨rfl, ⟨u8, hl8⟩, hk8⟩; have HB8 := Lib.hid (below_log HB7.out HL7.out hk8); have HO8 := Lib.hid (HO7.out.keptF hk8 HP6.out); have HL8 := Lib.hid hl8; clear hl8 hk8 HL7 HB7 HO7
    clear HX hm hLz
    go_wp2_with (first | (go_at_call 19; refine (records_log _ _ p _ _ _ _ most rs HL8.out (parsed_encs HG.out)).mono ?_; rintro e w9 ⟨u9, rfl, ho, hb⟩; obtain ⟨a9, c9, rfl⟩ := ho.lv; have HR9 := Lib.hid ho.rd.1; have HR6 := Lib.hid (HO8.out.below hb).rd.1; have HB9 := Lib.hid (HB8.out.trans (hb.mono HB8.out.size)); clear ho hb HL8 HB8 HO8) | (go_at_call 14; refine (need_any 0 _).mono ?_; rintro e w10 ⟨rfl, rfl⟩; rw [HZ.out]) | (go_at_call 25; refine (same_any rs rs rs.length rs.length rfl rfl _ _ _ _ _ (by omega) (by omega) HR6.out HR9.out).mono ?_; rintro e w11 ⟨rfl, hb⟩; rw [decide_eq_true (rfl : rs = rs)]; have HB9 := Lib.hid (HB9.out.trans (hb.mono HB9.out.size)); clear hb))
    go_ret
    exact ⟨rfl, HB9.out⟩
  have hi : ¬ (L : Int) = 0 := by omega
  by_cases hR : most - n5 < needN m.length
  · have hF : appF most n5 (encs rs 0) rs.length m = (7, n5, encs rs 0) := by unfold appF; rw [if_neg (by omega), if_pos hR]
    have hR2 : (most : Int) - (n5 : Int) < (needN L : Int) := by rw [hm] at hR; omega
    refine (append_gen _ _ p _ n5 _ n5 most rs HL7.out (parsed_encs HG.out) _ m (HX.out.kept (Keeps.of_below' HB7.out)).isB (by unfold maxLen; omega)).mono ?_; rw [hF]; rintro e w8 ⟨rfl, ⟨u8, hl8⟩, hk8⟩; have HB8 := Lib.hid (below_log HB7.out HL7.out hk8); have HO8 := Lib.hid (HO7.out.keptF hk8 HP6.out); have HL8 := Lib.hid hl8; clear hl8 hk8 HL7 HB7 HO7
    clear HX
    go_wp2_with (first | (go_at_call 19; refine (records_log _ _ p _ _ _ _ most rs HL8.out (parsed_encs HG.out)).mono ?_; rintro e w9 ⟨u9, rfl, ho, hb⟩; obtain ⟨a9, c9, rfl⟩ := ho.lv; have HR9 := Lib.hid ho.rd.1; have HR6 := Lib.hid (HO8.out.below hb).rd.1; have HB9 := Lib.hid (HB8.out.trans (hb.mono HB8.out.size)); clear ho hb HL8 HB8 HO8) | (go_at_call 14; refine (need_any (L : Int) _).mono ?_; rintro e w10 ⟨rfl, rfl⟩; rw [HND.out]) | (go_at_call 25; refine (same_any rs rs rs.length rs.length rfl rfl _ _ _ _ _ (by omega) (by omega) HR6.out HR9.out).mono ?_; rintro e w11 ⟨rfl, hb⟩; rw [decide_eq_true (rfl : rs = rs)]; have HB9 := Lib.hid (HB9.out.trans (hb.mono HB9.out.size)); clear hb))
    go_ret
    exact ⟨rfl, HB9.out⟩
  · have hF : appF most n5 (encs rs 0) rs.length m = (0, n5 + needN m.length, encs rs 0 ++ recd m (rs.length + 1)) := by unfold appF; rw [if_neg (by omega), if_neg hR]
    have hR2 : ¬ (most : Int) - (n5 : Int) < (needN L : Int) := by rw [hm] at hR; omega
    have hR3 : n5 + needN L ≤ most := by rw [hm] at hR; omega
    refine (append_gen _ _ p _ n5 _ n5 most rs HL7.out (parsed_encs HG.out) _ m (HX.out.kept (Keeps.of_below' HB7.out)).isB (by unfold maxLen; omega)).mono ?_; rw [hF]; rintro e w8 ⟨rfl, ⟨u8, hl8⟩, hk8⟩; have HB8 := Lib.hid (below_log HB7.out HL7.out hk8); have HO8 := Lib.hid (HO7.out.keptF hk8 HP6.out); have HL8 := Lib.hid hl8; clear hl8 hk8 HL7 HB7 HO7
    go_wp2_with (first | (go_at_call 19; refine (records_log _ _ p _ _ _ _ most (rs ++ [m]) HL8.out (parsed_snoc rfl HG.out (by omega) (by omega))).mono ?_; rintro e w9 ⟨u9, rfl, ho, hb⟩; obtain ⟨a9, c9, hv9⟩ := ho.lv; rw [show (rs ++ [m]).length = rs.length + 1 by simp] at hv9; subst hv9; have HCap := Lib.hid (rows_cap ho); have hsn : rs.length < (rs ++ [m]).length := (by simp); obtain ⟨b9, o9, y9, hya, hyc, hyb⟩ := ho.rd.1.at hsn; rw [List.getElem_append_right (Nat.le_refl _)] at hyb; simp only [Nat.sub_self, List.getElem_cons_zero] at hyb; obtain ⟨ya, yc, hye, _⟩ := hyb.rd; rw [hm] at hye; have HI1 := Lib.hid (hye ▸ hyb); have HCL := Lib.hid (hye ▸ hyc); have HR9 := Lib.hid (hya ▸ ho.rd.1); subst hya; have HR6 := Lib.hid (HO8.out.below hb).rd.1; have HB9 := Lib.hid (HB8.out.trans (hb.mono HB8.out.size)); have HL9 := Lib.hid (HL8.out.below hb); have HI2 := Lib.hid (show IsB _ (.slice a L c) m from ((HX.out.kept (Keeps.of_below' HB9.out)).isB).isB (by omega)); clear hyc hyb ho hb HL8 HB8 HO8 hye) | (go_at_call 14; refine (need_any (L : Int) _).mono ?_; rintro e w10 ⟨rfl, rfl⟩; rw [HND.out]))
    clear hA hi hR hF hR2 HX HP6
    have hlt : (rs.length : Int) < (rs.length : Int) + 1 := by omega
    have wv1 : IntKind.i64.wrap ((rs.length : Int) + 1) = (rs.length : Int) + 1 := IntWalk.i64_in _ (by omega)
    have wv2 : IntKind.i64.wrap ((most : Int) - (n5 : Int) - (needN L : Int)) = (most : Int) - (n5 : Int) - (needN L : Int) := IntWalk.i64_in _ (by omega)
    have HCL := Lib.hid (((Below.refl _ w10).drew.cell (World.block_lt_of_cell? _ _ HCL.out)).trans HCL.out)
    have HI1 := Lib.hid (HI1.out.below (Below.refl _ w10).drew)
    have HI2 := Lib.hid (HI2.out.below (Below.refl _ w10).drew)
    have HR6 := Lib.hid (HR6.out.below (Below.refl _ w10).drew)
    have HR9 := Lib.hid (HR9.out.below (Below.refl _ w10).drew)
    have HL9 := Lib.hid (HL9.out.below (Below.refl _ w10).drew)
    have HB9 := Lib.hid HB9.out.drew
    refine wp_region_V (fun w' => (w'.cell? ⟨b9, o9 + rs.length, none⟩ = some (.slice ya L yc)) ∧ (IsB w' (.slice ya L yc) m) ∧ (IsB w' (.slice a L c) m) ∧ (True))
      [(true, 0), (true, 1), (true, 2), (true, 3), (true, 4), (true, 5), (true, 6), (true, 7), (true, 8), (true, 9), (true, 10), (true, 11), (true, 12), (false, 13), (true, 14), (true, 15), (true, 16), (true, 17), (true, 18), (true, 19), (true, 20), (true, 21), (true, 22), (true, 23), (true, 24), (true, 25), (true, 26), (true, 27), (true, 29), (true, 30), (true, 31), (false, 28), (true, 32), (true, 33), (true, 34)] (by kernel_rfl) (by kernel_rfl) rfl (by kernel_rfl) ?_ ?_
    · exact ⟨by first | exact HCL.out | exact HI1.out | exact HI2.out, by first | exact HCL.out | exact HI1.out | exact HI2.out, by first | exact HCL.out | exact HI1.out | exact HI2.out, trivial⟩
    simp only [List.filterMap_cons, List.filterMap_nil, List.getElem?_cons_succ, List.getElem?_cons_zero, Option.map_some]
    apply wpSeqV_takeK _ (by first | rfl | (simp [Region.wanted, yielded]; done))
    · rintro w' ⟨s0, s1, s2, _⟩
      go_simp
      try rfl
    intro K hK
    go_simp
    refine hK _ ?_
    clear hK K
    apply wpSeqV_takeK _ (by first | rfl | (simp [Region.wanted, yielded]; done))
    · rintro w' ⟨s0, s1, s2, _⟩
      go_simp
      try rfl
    intro K hK
    go_simp
    refine hK _ ?_
    clear hK K
    apply wpSeqV_takeK _ (by first | rfl | (simp [Region.wanted, yielded]; done))
    · rintro w' ⟨s0, s1, s2, _⟩
      go_simp
      try rfl
    intro K hK
    go_simp
    refine hK _ ?_
    clear hK K
    apply wpSeqV_takeK _ (by first | rfl | (simp [Region.wanted, yielded]; done))
    · rintro w' ⟨s0, s1, s2, _⟩
      go_simp
      try rfl
    intro K hK
    go_simp
    refine hK _ ?_
    clear hK K
    apply wpSeqV_takeK _ (by first | rfl | (simp [Region.wanted, yielded]; done))
    · rintro w' ⟨s0, s1, s2, _⟩
      go_simp
      try rfl
    intro K hK
    go_simp
    refine hK _ ?_
    clear hK K
    apply wpSeqV_takeK _ (by first | rfl | (simp [Region.wanted, yielded]; done))
    · rintro w' ⟨s0, s1, s2, _⟩
      go_simp
      try rfl
    intro K hK
    go_simp
    refine hK _ ?_
    clear hK K
    apply wpSeqV_takeK _ (by first | rfl | (simp [Region.wanted, yielded]; done))
    · rintro w' ⟨s0, s1, s2, _⟩
      go_simp
      try rfl
    intro K hK
    go_simp
    refine hK _ ?_
    clear hK K
    apply wpSeqV_takeK _ (by first | rfl | (simp [Region.wanted, yielded]; done))
    · rintro w' ⟨s0, s1, s2, _⟩
      go_simp
      try rfl
    intro K hK
    go_simp
    refine hK _ ?_
    clear hK K
    apply wpSeqV_takeK _ (by first | rfl | (simp [Region.wanted, yielded]; done))
    · rintro w' ⟨s0, s1, s2, _⟩
      go_simp
      try rfl
    intro K hK
    go_simp
    refine hK _ ?_
    clear hK K
    apply wpSeqV_takeK _ (by first | rfl | (simp [Region.wanted, yielded]; done))
    · rintro w' ⟨s0, s1, s2, _⟩
      go_simp
      try rfl
    intro K hK
    go_simp
    refine hK _ ?_
    clear hK K
    apply wpSeqV_takeK _ (by first | rfl | (simp [Region.wanted, yielded]; done))
    · rintro w' ⟨s0, s1, s2, _⟩
      go_simp
      try rfl
    intro K hK
    go_simp
    refine hK _ ?_
    clear hK K
    apply wpSeqV_takeK _ (by first | rfl | (simp [Region.wanted, yielded]; done))
    · rintro w' ⟨s0, s1, s2, _⟩
      go_simp
      try rfl
    intro K hK
    go_simp
    refine hK _ ?_
    clear hK K
    apply wpSeqV_takeK _ (by first | rfl | (simp [Region.wanted, yielded]; done))
    · rintro w' ⟨s0, s1, s2, _⟩
      go_simp
      try rfl
    intro K hK
    go_simp
    refine hK _ ?_
    clear hK K
    refine wpSeqV_alone ?_
    focus (go_wp2_with (go_at_call 21; refine (begins_any rs (rs ++ [m]) rs.length (rs.length + 1) rfl (by simp) _ _ _ _ _ (by omega) (by omega) HCap.out HR6.out HR9.out).mono ?_; rintro e w11 ⟨rfl, hb⟩; rw [decide_eq_true (List.prefix_append rs [m])]; have HCL := Lib.hid ((hb.cell (World.block_lt_of_cell? _ _ HCL.out)).trans HCL.out); have HI1 := Lib.hid (HI1.out.below hb); have HI2 := Lib.hid (HI2.out.below hb); have HB9 := Lib.hid (HB9.out.trans (hb.mono HB9.out.size)); have HL9 := Lib.hid (HL9.out.below hb); clear hb))
    refine QV_normal (fun w' => (w'.cell? ⟨b9, o9 + rs.length, none⟩ = some (.slice ya L yc)) ∧ (IsB w' (.slice ya L yc) m) ∧ (IsB w' (.slice a L c) m) ∧ (True)) (by rintro w' ⟨s0, s1, s2, _⟩; exact ⟨s0, s1, s2, trivial⟩) ⟨by first | exact HCL.out | exact HI1.out | exact HI2.out, by first | exact HCL.out | exact HI1.out | exact HI2.out, by first | exact HCL.out | exact HI1.out | exact HI2.out, trivial⟩ (fun _ => ?_)
    apply wpSeqV_takeK _ (by first | rfl | (simp [Region.wanted, yielded]; done))
    · rintro w' ⟨s0, s1, s2, _⟩
      go_simp
      try rfl
    intro K hK
    go_simp
    refine hK _ ?_
    clear hK K
    apply wpSeqV_takeK _ (by first | rfl | (simp [Region.wanted, yielded]; done))
    · rintro w' ⟨s0, s1, s2, _⟩
      go_simp
      try rfl
    intro K hK
    go_simp
    refine hK _ ?_
    clear hK K
    apply wpSeqV_takeK _ (by first | rfl | (simp [Region.wanted, yielded]; done))
    · rintro w' ⟨s0, s1, s2, _⟩
      go_simp
      try rfl
    intro K hK
    go_simp
    refine hK _ ?_
    clear hK K
    apply wpSeqV_takeK _ (by first | rfl | (simp [Region.wanted, yielded]; done))
    · rintro w' ⟨s0, s1, s2, _⟩
      go_simp
      try rfl
    intro K hK
    go_simp
    refine hK _ ?_
    clear hK K
    apply wpSeqV_takeK _ (by first | rfl | (simp [Region.wanted, yielded]; done))
    · rintro w' ⟨s0, s1, s2, _⟩
      go_simp
      try rfl
    intro K hK
    go_simp
    refine hK _ ?_
    clear hK K
    apply wpSeqV_takeK _ (by first | rfl | (simp [Region.wanted, yielded]; done))
    · rintro w' ⟨s0, s1, s2, _⟩
      go_simp
      try rfl
    intro K hK
    go_simp
    refine hK _ ?_
    clear hK K
    apply wpSeqV_takeK _ (by first | rfl | (simp [Region.wanted, yielded]; done))
    · rintro w' ⟨s0, s1, s2, _⟩
      go_simp
      try rfl
    intro K hK
    go_simp
    refine hK _ ?_
    clear hK K
    refine wpSeqV_takeK (.string ⟨m.toArray⟩) (by first | rfl | (simp [Region.wanted, yielded]; done)) ?_ ?_
    · rintro w' ⟨s0, s1, s2, _⟩
      exact exec_text rfl rfl s1
    intro K hK
    go_simp
    refine hK _ ?_
    clear hK K
    apply wpSeqV_takeK _ (by first | rfl | (simp [Region.wanted, yielded]; done))
    · rintro w' ⟨s0, s1, s2, _⟩
      go_simp
      try rfl
    intro K hK
    go_simp
    refine hK _ ?_
    clear hK K
    refine wpSeqV_takeK (.string ⟨m.toArray⟩) (by first | rfl | (simp [Region.wanted, yielded]; done)) ?_ ?_
    · rintro w' ⟨s0, s1, s2, _⟩
      exact exec_text rfl rfl s2
    intro K hK
    go_simp
    refine hK _ ?_
    clear hK K
    refine wpSeqV_takeK (.bool true) (by first | rfl | (simp [Region.wanted, yielded]; done)) ?_ ?_
    · rintro w' ⟨s0, s1, s2, _⟩
      (rw [exec_eqlText (l := m) (m := m) rfl rfl rfl]; simp)
    intro K hK
    go_simp
    refine hK _ ?_
    clear hK K
    apply wpSeqV_takeK _ (by first | rfl | (simp [Region.wanted, yielded]; done))
    · rintro w' ⟨s0, s1, s2, _⟩
      go_simp
      try rfl
    intro K hK
    go_simp
    refine hK _ ?_
    clear hK K
    apply wpSeqV_takeK _ (by first | rfl | (simp [Region.wanted, yielded]; done))
    · rintro w' ⟨s0, s1, s2, _⟩
      go_simp
      try rfl
    intro K hK
    go_simp
    refine hK _ ?_
    clear hK K
    apply wpSeqV_takeK _ (by first | rfl | (simp [Region.wanted, yielded]; done))
    · rintro w' ⟨s0, s1, s2, _⟩
      go_simp
      try rfl
    intro K hK
    go_simp
    refine hK _ ?_
    clear hK K
    apply wpSeqV_takeK _ (by first | rfl | (simp [Region.wanted, yielded]; done))
    · rintro w' ⟨s0, s1, s2, _⟩
      go_simp
      try rfl
    intro K hK
    go_simp
    refine hK _ ?_
    clear hK K
    apply wpSeqV_takeK _ (by first | rfl | (simp [Region.wanted, yielded]; done))
    · rintro w' ⟨s0, s1, s2, _⟩
      go_simp
      try rfl
    intro K hK
    go_simp
    refine hK _ ?_
    clear hK K
    apply wpSeqV_takeK _ (by first | rfl | (simp [Region.wanted, yielded]; done))
    · rintro w' ⟨s0, s1, s2, _⟩
      go_simp
      try rfl
    intro K hK
    go_simp
    refine hK _ ?_
    clear hK K
    refine wpSeqV_alone ?_
    focus (go_wp2_with (go_at_call 24; refine (free_any _ _ p _ _ _ _ most HL9.out).mono ?_; rintro e w12 ⟨rfl, hb⟩; rw [show ((most : Int) - ((n5 + needN m.length : Nat) : Int)) = (most : Int) - (n5 : Int) - (needN L : Int) from by rw [hm]; omega]; have HCL := Lib.hid ((hb.cell (World.block_lt_of_cell? _ _ HCL.out)).trans HCL.out); have HI1 := Lib.hid (HI1.out.below hb); have HI2 := Lib.hid (HI2.out.below hb); have HB9 := Lib.hid (HB9.out.trans (hb.mono HB9.out.size)); clear hb))
    refine QV_normal (fun w' => (w'.cell? ⟨b9, o9 + rs.length, none⟩ = some (.slice ya L yc)) ∧ (IsB w' (.slice ya L yc) m) ∧ (IsB w' (.slice a L c) m) ∧ (True)) (by rintro w' ⟨s0, s1, s2, _⟩; exact ⟨s0, s1, s2, trivial⟩) ⟨by first | exact HCL.out | exact HI1.out | exact HI2.out, by first | exact HCL.out | exact HI1.out | exact HI2.out, by first | exact HCL.out | exact HI1.out | exact HI2.out, trivial⟩ (fun _ => ?_)
    apply wpSeqV_takeK _ (by first | rfl | (simp [Region.wanted, yielded]; done))
    · rintro w' ⟨s0, s1, s2, _⟩
      go_simp
      try rfl
    intro K hK
    go_simp
    refine hK _ ?_
    clear hK K
    apply wpSeqV_takeK _ (by first | rfl | (simp [Region.wanted, yielded]; done))
    · rintro w' ⟨s0, s1, s2, _⟩
      go_simp
      try rfl
    intro K hK
    go_simp
    refine hK _ ?_
    clear hK K
    apply wpSeqV_takeK _ (by first | rfl | (simp [Region.wanted, yielded]; done))
    · rintro w' ⟨s0, s1, s2, _⟩
      go_simp
      try rfl
    intro K hK
    go_simp
    refine hK _ ?_
    clear hK K
    refine wpSeqV_end ?_
    go_wp2
    go_ret
    exact ⟨rfl, HB9.out⟩

set_option maxRecDepth 100000 in
set_option maxHeartbeats 4000000 in
theorem appends_cut (k : Int) (x : Value) (n : Nat) (a : Option Addr) (c : Nat) (l : Bs) (w : World) (h0 : 0 ≤ k) (h1 : k ≤ 255) (h : ArgD w w.heap.size x n) (hx : ArgB w w.heap.size (.slice a l.length c) l) (hl : 200 < l.length) :
    Calls Try.prog 5 #[.int .u8 k, x, .slice a l.length c] w fun e w' => e = .returned (.bool true) ∧ Below w.heap.size w w' := by
  have H := play_any k h0 h1 x n w h
  obtain ⟨ao, cx, rfl, _⟩ := h
  have hq0 : k.tmod 24 = k % 24 := Int.tmod_eq_emod_of_nonneg h0
  rw [hq0] at H
  have hq1 : 0 ≤ k % 24 := by omega
  have hq2 : k % 24 < 24 := by omega
  generalize (k % 24 + 1).toNat = most at H
  have hlc : l.length ≤ c ∧ c ≤ 9223372036854775807 := by
    obtain ⟨a', c', hv, h1, h2⟩ := hx.lv
    simp only [Value.slice.injEq, true_and] at hv
    unfold maxLen at h2
    omega
  obtain ⟨hlc, hcm⟩ := hlc
  have t1 : (200 : Int) < (l.length : Int) := by omega
  have t2 : (200 : Int) ≤ (c : Int) := by omega
  have hx2 := hx.take (M := 200) (by omega)
  have hm : (l.take 200).length = 200 := by rw [List.length_take]; omega
  generalize l.take 200 = m at hx2 hm
  have HX := Lib.hid hx2
  clear hx hx2
  have HND := Lib.hid (show need 200 = (needN 200 : Int) from need_nat 200)
  generalize l.length = len at *
  go_enter Try.func5, Try.ntmps5
  go_wp2_with (first | (go_at_call 22; refine H.mono ?_; clear H; rintro e w1 ⟨p, q, m1, bs, last, rfl, hb, hs⟩; have HB := Lib.hid hb; obtain ⟨v, u, hL, _⟩ := hs; have HL := Lib.hid hL; clear hb hL; obtain ⟨rs, hrs⟩ := parsed_exists bs; have HRS := Lib.hid hrs; clear hrs) | (go_at_call 11; refine (live_any _).mono ?_; rintro e w2 ⟨rfl, hb⟩; have HB := Lib.hid (HB.out.trans (hb.mono HB.out.size)); have HL := Lib.hid (HL.out.below hb); clear hb) | (go_at_call 23; refine (clean_any _ _ p v m1 bs last most rs HL.out HRS.out).mono ?_; rintro e w5 hpost; obtain ⟨rfl, ⟨u5, n5, hn5, hl5⟩, hk5⟩ := cleanPost_log HL.out.base hpost; have HB5 := Lib.hid (below_log HB.out HL.out hk5); have HL5 := Lib.hid hl5; have HG := Lib.hid (HRS.out.1); have hrl := log_room hl5 (parsed_encs HRS.out.1); have hn5m := hl5.hn; have hm5 := hl5.hm; clear hl5 hk5 hpost HL HB) | (go_at_call 19; refine (records_log _ _ p _ _ _ _ most rs HL5.out (parsed_encs HG.out)).mono ?_; rintro e w6 ⟨u6, rfl, ho, hb⟩; obtain ⟨a6, c6, rfl⟩ := ho.lv; have HO6 := Lib.hid ho; have HP6 := Lib.hid (show ∀ i, (i = p ∨ u5.ownBlock = some i) → i < w5.heap.size from fun i hi => by rcases hi with rfl | hi; exact HL5.out.lt.1; exact (HL5.out.lt.2 i hi).2); have HB6 := Lib.hid (HB5.out.trans (hb.mono HB5.out.size)); have HL6 := Lib.hid (HL5.out.below hb); clear ho hb HL5 HB5) | (go_at_call 24; refine (free_any _ _ p _ _ _ _ most HL6.out).mono ?_; rintro e w7 ⟨rfl, hb⟩; have HB7 := Lib.hid (HB6.out.trans (hb.mono HB6.out.size)); have HO7 := Lib.hid (HO6.out.below hb); have HL7 := Lib.hid (HL6.out.below hb); clear hb HL6 HB6 HO6))
  by_cases hA : m.length < 1
  · omega
  have hi : ¬ (200 : Int) = 0 := by omega
  by_cases hR : most - n5 < needN m.length
  · have hF : appF most n5 (encs rs 0) rs.length m = (7, n5, encs rs 0) := by unfold appF; rw [if_neg (by omega), if_pos hR]
    have hR2 : (most : Int) - (n5 : Int) < (needN 200 : Int) := by rw [hm] at hR; omega
    refine (append_gen _ _ p _ n5 _ n5 most rs HL7.out (parsed_encs HG.out) _ m (HX.out.kept (Keeps.of_below' HB7.out)).isB (by unfold maxLen; omega)).mono ?_; rw [hF]; rintro e w8 ⟨rfl, ⟨u8, hl8⟩, hk8⟩; have HB8 := Lib.hid (below_log HB7.out HL7.out hk8); have HO8 := Lib.hid (HO7.out.keptF hk8 HP6.out); have HL8 := Lib.hid hl8; clear hl8 hk8 HL7 HB7 HO7
    clear HX
    go_wp2_with (first | (go_at_call 19; refine (records_log _ _ p _ _ _ _ most rs HL8.out (parsed_encs HG.out)).mono ?_; rintro e w9 ⟨u9, rfl, ho, hb⟩; obtain ⟨a9, c9, rfl⟩ := ho.lv; have HR9 := Lib.hid ho.rd.1; have HR6 := Lib.hid (HO8.out.below hb).rd.1; have HB9 := Lib.hid (HB8.out.trans (hb.mono HB8.out.size)); clear ho hb HL8 HB8 HO8) | (go_at_call 14; refine (need_any 200 _).mono ?_; rintro e w10 ⟨rfl, rfl⟩; rw [HND.out]) | (go_at_call 25; refine (same_any rs rs rs.length rs.length rfl rfl _ _ _ _ _ (by omega) (by omega) HR6.out HR9.out).mono ?_; rintro e w11 ⟨rfl, hb⟩; rw [decide_eq_true (rfl : rs = rs)]; have HB9 := Lib.hid (HB9.out.trans (hb.mono HB9.out.size)); clear hb))
    go_ret
    exact ⟨rfl, HB9.out⟩
  · have hF : appF most n5 (encs rs 0) rs.length m = (0, n5 + needN m.length, encs rs 0 ++ recd m (rs.length + 1)) := by unfold appF; rw [if_neg (by omega), if_neg hR]
    have hR2 : ¬ (most : Int) - (n5 : Int) < (needN 200 : Int) := by rw [hm] at hR; omega
    have hR3 : n5 + needN 200 ≤ most := by rw [hm] at hR; omega
    refine (append_gen _ _ p _ n5 _ n5 most rs HL7.out (parsed_encs HG.out) _ m (HX.out.kept (Keeps.of_below' HB7.out)).isB (by unfold maxLen; omega)).mono ?_; rw [hF]; rintro e w8 ⟨rfl, ⟨u8, hl8⟩, hk8⟩; have HB8 := Lib.hid (below_log HB7.out HL7.out hk8); have HO8 := Lib.hid (HO7.out.keptF hk8 HP6.out); have HL8 := Lib.hid hl8; clear hl8 hk8 HL7 HB7 HO7
    go_wp2_with (first | (go_at_call 19; refine (records_log _ _ p _ _ _ _ most (rs ++ [m]) HL8.out (parsed_snoc rfl HG.out (by omega) (by omega))).mono ?_; rintro e w9 ⟨u9, rfl, ho, hb⟩; obtain ⟨a9, c9, hv9⟩ := ho.lv; rw [show (rs ++ [m]).length = rs.length + 1 by simp] at hv9; subst hv9; have HCap := Lib.hid (rows_cap ho); have hsn : rs.length < (rs ++ [m]).length := (by simp); obtain ⟨b9, o9, y9, hya, hyc, hyb⟩ := ho.rd.1.at hsn; rw [List.getElem_append_right (Nat.le_refl _)] at hyb; simp only [Nat.sub_self, List.getElem_cons_zero] at hyb; obtain ⟨ya, yc, hye, _⟩ := hyb.rd; rw [hm] at hye; have HI1 := Lib.hid (hye ▸ hyb); have HCL := Lib.hid (hye ▸ hyc); have HR9 := Lib.hid (hya ▸ ho.rd.1); subst hya; have HR6 := Lib.hid (HO8.out.below hb).rd.1; have HB9 := Lib.hid (HB8.out.trans (hb.mono HB8.out.size)); have HL9 := Lib.hid (HL8.out.below hb); have HI2 := Lib.hid (show IsB _ (.slice a 200 c) m from ((HX.out.kept (Keeps.of_below' HB9.out)).isB).isB (by omega)); clear hyc hyb ho hb HL8 HB8 HO8 hye) | (go_at_call 14; refine (need_any 200 _).mono ?_; rintro e w10 ⟨rfl, rfl⟩; rw [HND.out]))
    clear hA hi hR hF hR2 HX HP6
    have hlt : (rs.length : Int) < (rs.length : Int) + 1 := by omega
    have wv1 : IntKind.i64.wrap ((rs.length : Int) + 1) = (rs.length : Int) + 1 := IntWalk.i64_in _ (by omega)
    have wv2 : IntKind.i64.wrap ((most : Int) - (n5 : Int) - (needN 200 : Int)) = (most : Int) - (n5 : Int) - (needN 200 : Int) := IntWalk.i64_in _ (by omega)
    have HCL := Lib.hid (((Below.refl _ w10).drew.cell (World.block_lt_of_cell? _ _ HCL.out)).trans HCL.out)
    have HI1 := Lib.hid (HI1.out.below (Below.refl _ w10).drew)
    have HI2 := Lib.hid (HI2.out.below (Below.refl _ w10).drew)
    have HR6 := Lib.hid (HR6.out.below (Below.refl _ w10).drew)
    have HR9 := Lib.hid (HR9.out.below (Below.refl _ w10).drew)
    have HL9 := Lib.hid (HL9.out.below (Below.refl _ w10).drew)
    have HB9 := Lib.hid HB9.out.drew
    refine wp_region_V (fun w' => (w'.cell? ⟨b9, o9 + rs.length, none⟩ = some (.slice ya 200 yc)) ∧ (IsB w' (.slice ya 200 yc) m) ∧ (IsB w' (.slice a 200 c) m) ∧ (True))
      [(true, 0), (true, 1), (true, 2), (true, 3), (true, 4), (true, 5), (true, 6), (true, 7), (true, 8), (true, 9), (true, 10), (true, 11), (true, 12), (false, 13), (true, 14), (true, 15), (true, 16), (true, 17), (true, 18), (true, 19), (true, 20), (true, 21), (true, 22), (true, 23), (true, 24), (true, 25), (true, 26), (true, 27), (true, 29), (true, 30), (true, 31), (false, 28), (true, 32), (true, 33), (true, 34)] (by kernel_rfl) (by kernel_rfl) rfl (by kernel_rfl) ?_ ?_
    · exact ⟨by first | exact HCL.out | exact HI1.out | exact HI2.out, by first | exact HCL.out | exact HI1.out | exact HI2.out, by first | exact HCL.out | exact HI1.out | exact HI2.out, trivial⟩
    simp only [List.filterMap_cons, List.filterMap_nil, List.getElem?_cons_succ, List.getElem?_cons_zero, Option.map_some]
    apply wpSeqV_takeK _ (by first | rfl | (simp [Region.wanted, yielded]; done))
    · rintro w' ⟨s0, s1, s2, _⟩
      go_simp
      try rfl
    intro K hK
    go_simp
    refine hK _ ?_
    clear hK K
    apply wpSeqV_takeK _ (by first | rfl | (simp [Region.wanted, yielded]; done))
    · rintro w' ⟨s0, s1, s2, _⟩
      go_simp
      try rfl
    intro K hK
    go_simp
    refine hK _ ?_
    clear hK K
    apply wpSeqV_takeK _ (by first | rfl | (simp [Region.wanted, yielded]; done))
    · rintro w' ⟨s0, s1, s2, _⟩
      go_simp
      try rfl
    intro K hK
    go_simp
    refine hK _ ?_
    clear hK K
    apply wpSeqV_takeK _ (by first | rfl | (simp [Region.wanted, yielded]; done))
    · rintro w' ⟨s0, s1, s2, _⟩
      go_simp
      try rfl
    intro K hK
    go_simp
    refine hK _ ?_
    clear hK K
    apply wpSeqV_takeK _ (by first | rfl | (simp [Region.wanted, yielded]; done))
    · rintro w' ⟨s0, s1, s2, _⟩
      go_simp
      try rfl
    intro K hK
    go_simp
    refine hK _ ?_
    clear hK K
    apply wpSeqV_takeK _ (by first | rfl | (simp [Region.wanted, yielded]; done))
    · rintro w' ⟨s0, s1, s2, _⟩
      go_simp
      try rfl
    intro K hK
    go_simp
    refine hK _ ?_
    clear hK K
    apply wpSeqV_takeK _ (by first | rfl | (simp [Region.wanted, yielded]; done))
    · rintro w' ⟨s0, s1, s2, _⟩
      go_simp
      try rfl
    intro K hK
    go_simp
    refine hK _ ?_
    clear hK K
    apply wpSeqV_takeK _ (by first | rfl | (simp [Region.wanted, yielded]; done))
    · rintro w' ⟨s0, s1, s2, _⟩
      go_simp
      try rfl
    intro K hK
    go_simp
    refine hK _ ?_
    clear hK K
    apply wpSeqV_takeK _ (by first | rfl | (simp [Region.wanted, yielded]; done))
    · rintro w' ⟨s0, s1, s2, _⟩
      go_simp
      try rfl
    intro K hK
    go_simp
    refine hK _ ?_
    clear hK K
    apply wpSeqV_takeK _ (by first | rfl | (simp [Region.wanted, yielded]; done))
    · rintro w' ⟨s0, s1, s2, _⟩
      go_simp
      try rfl
    intro K hK
    go_simp
    refine hK _ ?_
    clear hK K
    apply wpSeqV_takeK _ (by first | rfl | (simp [Region.wanted, yielded]; done))
    · rintro w' ⟨s0, s1, s2, _⟩
      go_simp
      try rfl
    intro K hK
    go_simp
    refine hK _ ?_
    clear hK K
    apply wpSeqV_takeK _ (by first | rfl | (simp [Region.wanted, yielded]; done))
    · rintro w' ⟨s0, s1, s2, _⟩
      go_simp
      try rfl
    intro K hK
    go_simp
    refine hK _ ?_
    clear hK K
    apply wpSeqV_takeK _ (by first | rfl | (simp [Region.wanted, yielded]; done))
    · rintro w' ⟨s0, s1, s2, _⟩
      go_simp
      try rfl
    intro K hK
    go_simp
    refine hK _ ?_
    clear hK K
    refine wpSeqV_alone ?_
    focus (go_wp2_with (go_at_call 21; refine (begins_any rs (rs ++ [m]) rs.length (rs.length + 1) rfl (by simp) _ _ _ _ _ (by omega) (by omega) HCap.out HR6.out HR9.out).mono ?_; rintro e w11 ⟨rfl, hb⟩; rw [decide_eq_true (List.prefix_append rs [m])]; have HCL := Lib.hid ((hb.cell (World.block_lt_of_cell? _ _ HCL.out)).trans HCL.out); have HI1 := Lib.hid (HI1.out.below hb); have HI2 := Lib.hid (HI2.out.below hb); have HB9 := Lib.hid (HB9.out.trans (hb.mono HB9.out.size)); have HL9 := Lib.hid (HL9.out.below hb); clear hb))
    refine QV_normal (fun w' => (w'.cell? ⟨b9, o9 + rs.length, none⟩ = some (.slice ya 200 yc)) ∧ (IsB w' (.slice ya 200 yc) m) ∧ (IsB w' (.slice a 200 c) m) ∧ (True)) (by rintro w' ⟨s0, s1, s2, _⟩; exact ⟨s0, s1, s2, trivial⟩) ⟨by first | exact HCL.out | exact HI1.out | exact HI2.out, by first | exact HCL.out | exact HI1.out | exact HI2.out, by first | exact HCL.out | exact HI1.out | exact HI2.out, trivial⟩ (fun _ => ?_)
    apply wpSeqV_takeK _ (by first | rfl | (simp [Region.wanted, yielded]; done))
    · rintro w' ⟨s0, s1, s2, _⟩
      go_simp
      try rfl
    intro K hK
    go_simp
    refine hK _ ?_
    clear hK K
    apply wpSeqV_takeK _ (by first | rfl | (simp [Region.wanted, yielded]; done))
    · rintro w' ⟨s0, s1, s2, _⟩
      go_simp
      try rfl
    intro K hK
    go_simp
    refine hK _ ?_
    clear hK K
    apply wpSeqV_takeK _ (by first | rfl | (simp [Region.wanted, yielded]; done))
    · rintro w' ⟨s0, s1, s2, _⟩
      go_simp
      try rfl
    intro K hK
    go_simp
    refine hK _ ?_
    clear hK K
    apply wpSeqV_takeK _ (by first | rfl | (simp [Region.wanted, yielded]; done))
    · rintro w' ⟨s0, s1, s2, _⟩
      go_simp
      try rfl
    intro K hK
    go_simp
    refine hK _ ?_
    clear hK K
    apply wpSeqV_takeK _ (by first | rfl | (simp [Region.wanted, yielded]; done))
    · rintro w' ⟨s0, s1, s2, _⟩
      go_simp
      try rfl
    intro K hK
    go_simp
    refine hK _ ?_
    clear hK K
    apply wpSeqV_takeK _ (by first | rfl | (simp [Region.wanted, yielded]; done))
    · rintro w' ⟨s0, s1, s2, _⟩
      go_simp
      try rfl
    intro K hK
    go_simp
    refine hK _ ?_
    clear hK K
    apply wpSeqV_takeK _ (by first | rfl | (simp [Region.wanted, yielded]; done))
    · rintro w' ⟨s0, s1, s2, _⟩
      go_simp
      try rfl
    intro K hK
    go_simp
    refine hK _ ?_
    clear hK K
    refine wpSeqV_takeK (.string ⟨m.toArray⟩) (by first | rfl | (simp [Region.wanted, yielded]; done)) ?_ ?_
    · rintro w' ⟨s0, s1, s2, _⟩
      exact exec_text rfl rfl s1
    intro K hK
    go_simp
    refine hK _ ?_
    clear hK K
    apply wpSeqV_takeK _ (by first | rfl | (simp [Region.wanted, yielded]; done))
    · rintro w' ⟨s0, s1, s2, _⟩
      go_simp
      try rfl
    intro K hK
    go_simp
    refine hK _ ?_
    clear hK K
    refine wpSeqV_takeK (.string ⟨m.toArray⟩) (by first | rfl | (simp [Region.wanted, yielded]; done)) ?_ ?_
    · rintro w' ⟨s0, s1, s2, _⟩
      exact exec_text rfl rfl s2
    intro K hK
    go_simp
    refine hK _ ?_
    clear hK K
    refine wpSeqV_takeK (.bool true) (by first | rfl | (simp [Region.wanted, yielded]; done)) ?_ ?_
    · rintro w' ⟨s0, s1, s2, _⟩
      (rw [exec_eqlText (l := m) (m := m) rfl rfl rfl]; simp)
    intro K hK
    go_simp
    refine hK _ ?_
    clear hK K
    apply wpSeqV_takeK _ (by first | rfl | (simp [Region.wanted, yielded]; done))
    · rintro w' ⟨s0, s1, s2, _⟩
      go_simp
      try rfl
    intro K hK
    go_simp
    refine hK _ ?_
    clear hK K
    apply wpSeqV_takeK _ (by first | rfl | (simp [Region.wanted, yielded]; done))
    · rintro w' ⟨s0, s1, s2, _⟩
      go_simp
      try rfl
    intro K hK
    go_simp
    refine hK _ ?_
    clear hK K
    apply wpSeqV_takeK _ (by first | rfl | (simp [Region.wanted, yielded]; done))
    · rintro w' ⟨s0, s1, s2, _⟩
      go_simp
      try rfl
    intro K hK
    go_simp
    refine hK _ ?_
    clear hK K
    apply wpSeqV_takeK _ (by first | rfl | (simp [Region.wanted, yielded]; done))
    · rintro w' ⟨s0, s1, s2, _⟩
      go_simp
      try rfl
    intro K hK
    go_simp
    refine hK _ ?_
    clear hK K
    apply wpSeqV_takeK _ (by first | rfl | (simp [Region.wanted, yielded]; done))
    · rintro w' ⟨s0, s1, s2, _⟩
      go_simp
      try rfl
    intro K hK
    go_simp
    refine hK _ ?_
    clear hK K
    apply wpSeqV_takeK _ (by first | rfl | (simp [Region.wanted, yielded]; done))
    · rintro w' ⟨s0, s1, s2, _⟩
      go_simp
      try rfl
    intro K hK
    go_simp
    refine hK _ ?_
    clear hK K
    refine wpSeqV_alone ?_
    focus (go_wp2_with (go_at_call 24; refine (free_any _ _ p _ _ _ _ most HL9.out).mono ?_; rintro e w12 ⟨rfl, hb⟩; rw [show ((most : Int) - ((n5 + needN m.length : Nat) : Int)) = (most : Int) - (n5 : Int) - (needN 200 : Int) from by rw [hm]; omega]; have HCL := Lib.hid ((hb.cell (World.block_lt_of_cell? _ _ HCL.out)).trans HCL.out); have HI1 := Lib.hid (HI1.out.below hb); have HI2 := Lib.hid (HI2.out.below hb); have HB9 := Lib.hid (HB9.out.trans (hb.mono HB9.out.size)); clear hb))
    refine QV_normal (fun w' => (w'.cell? ⟨b9, o9 + rs.length, none⟩ = some (.slice ya 200 yc)) ∧ (IsB w' (.slice ya 200 yc) m) ∧ (IsB w' (.slice a 200 c) m) ∧ (True)) (by rintro w' ⟨s0, s1, s2, _⟩; exact ⟨s0, s1, s2, trivial⟩) ⟨by first | exact HCL.out | exact HI1.out | exact HI2.out, by first | exact HCL.out | exact HI1.out | exact HI2.out, by first | exact HCL.out | exact HI1.out | exact HI2.out, trivial⟩ (fun _ => ?_)
    apply wpSeqV_takeK _ (by first | rfl | (simp [Region.wanted, yielded]; done))
    · rintro w' ⟨s0, s1, s2, _⟩
      go_simp
      try rfl
    intro K hK
    go_simp
    refine hK _ ?_
    clear hK K
    apply wpSeqV_takeK _ (by first | rfl | (simp [Region.wanted, yielded]; done))
    · rintro w' ⟨s0, s1, s2, _⟩
      go_simp
      try rfl
    intro K hK
    go_simp
    refine hK _ ?_
    clear hK K
    apply wpSeqV_takeK _ (by first | rfl | (simp [Region.wanted, yielded]; done))
    · rintro w' ⟨s0, s1, s2, _⟩
      go_simp
      try rfl
    intro K hK
    go_simp
    refine hK _ ?_
    clear hK K
    refine wpSeqV_end ?_
    go_wp2
    go_ret
    exact ⟨rfl, HB9.out⟩

theorem appends_walk (k : Int) (x y : Value) (n : Nat) (l : Bs) (w : World) (h0 : 0 ≤ k) (h1 : k ≤ 255) (h : ArgD w w.heap.size x n) (hy : ArgB w w.heap.size y l) :
    Calls Try.prog 5 #[.int .u8 k, x, y] w fun e w' => e = .returned (.bool true) ∧ Below w.heap.size w w' := by
  obtain ⟨a, c, rfl, _⟩ := hy.lv
  by_cases hl : l.length ≤ 200
  · exact appends_all k x n a c l w h0 h1 h hy hl
  · exact appends_cut k x n a c l w h0 h1 h hy (by omega)

end Go.Proofs.Ytmkfiecdgghceaa
