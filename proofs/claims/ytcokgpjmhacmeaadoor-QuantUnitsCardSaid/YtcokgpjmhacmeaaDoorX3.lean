/- Layer 1 (quant): the walks of QuantParses, QuantPrints and QuantUp. -/
import Derived.Test.YtcokgpjmhacmeaaDoorQ10
namespace Go.Proofs.YtcokgpjmhacmeaaDoor
open Go.RowKit
set_option linter.unusedVariables false
set_option linter.unusedSimpArgs false
open Go.Shelf

theorem uRes_is (o : Option Nat) : ∃ a b, uRes o = .tuple #[.int .i64 a, .bool b] := by
  cases o with
  | none => exact ⟨_, _, rfl⟩
  | some u => exact ⟨_, _, rfl⟩
theorem pRes_is (x : Int × Int) : ∃ a b, pRes x = .tuple #[.int .i64 a, .int .i64 b] := ⟨_, _, rfl⟩
theorem sRes_is (x : Bs × Int) : ∃ a b, sRes x = .tuple #[.string a, .int .i64 b] := ⟨_, _, rfl⟩

set_option maxRecDepth 100000 in
set_option maxHeartbeats 2000000 in
theorem parses_walk (s : ByteArray) (hs : s.size ≤ 9223372036854775807) (w : World) (hT : Tabs w) : Calls Tryd.prog 3 #[.string s] w fun e w' => e = .returned (.bool true) ∧ Below w.heap.size w w' := by
  have HT := Lib.hid hT
  clear hT
  obtain ⟨u1, u2, hu⟩ := uRes_is (unitOf s.data.toList)
  obtain ⟨p1, p2, hp⟩ := pRes_is (parseF s.data.toList)
  have HU := Lib.hid hu
  have HP := Lib.hid hp
  clear hu hp
  go_enter Tryd.func3, Tryd.ntmps3
  go_wp2_with (first | (go_at_call 11; refine (parse_any s hs _).mono ?_; rw [HP.out]; rintro e w1 ⟨rfl, hb⟩; have HB := Lib.hid hb; have HT := Lib.hid (HT.out.below hb); clear hb) | (go_at_call 12; refine (parseR_any s hs _).mono ?_; rw [HP.out]; rintro e w2 ⟨rfl, hb⟩; have HB := Lib.hid (HB.out.trans (hb.mono HB.out.size)); have HT := Lib.hid (HT.out.below hb); clear hb) | (go_at_call 13; refine (unit_any s _).mono ?_; rw [HU.out]; rintro e w3 ⟨rfl, hb⟩; have HB := Lib.hid (HB.out.trans (hb.mono HB.out.size)); have HT := Lib.hid (HT.out.below hb); clear hb) | (go_at_call 14; refine (unitR_any s _).mono ?_; rw [HU.out]; rintro e w4 ⟨rfl, rfl⟩) | (go_at_call 15; refine (live_any _ HT.out).mono ?_; rintro e w5 ⟨rfl, hb⟩; have HB := Lib.hid (HB.out.trans (hb.mono HB.out.size)); clear hb))
  go_ret
  exact ⟨rfl, HB.out⟩

set_option maxRecDepth 100000 in
set_option maxHeartbeats 2000000 in
theorem prints_walk (n u : Int) (w : World) (hT : Tabs w) : Calls Tryd.prog 9 #[.int .i64 n, .int .i64 u] w fun e w' => e = .returned (.bool true) ∧ Below w.heap.size w w' := by
  have HT := Lib.hid hT
  clear hT
  obtain ⟨s1, s2, hs⟩ := sRes_is (printF n)
  obtain ⟨p1, p2, hp⟩ := pRes_is (upF n u)
  have HS := Lib.hid hs
  have HP := Lib.hid hp
  clear hs hp
  generalize hf : fitF n u = f
  have HF := Lib.hid hf
  clear hf
  go_enter Tryd.func9, Tryd.ntmps9
  go_wp2_with (first | (go_at_call 16; refine (print_any n _ HT.out).mono ?_; rw [HS.out]; rintro e w1 ⟨rfl, hb⟩; have HB := Lib.hid hb; have HT := Lib.hid (HT.out.below hb); clear hb) | (go_at_call 19; refine (printR_any n _ HT.out).mono ?_; rw [HS.out]; rintro e w2 ⟨rfl, hb⟩; have HB := Lib.hid (HB.out.trans (hb.mono HB.out.size)); have HT := Lib.hid (HT.out.below hb); clear hb) | (go_at_call 17; refine (up_any n u _).mono ?_; rw [HP.out]; rintro e w3 ⟨rfl, rfl⟩) | (go_at_call 20; refine (upR_any n u _).mono ?_; rw [HP.out]; rintro e w4 ⟨rfl, rfl⟩) | (go_at_call 15; refine (live_any _ HT.out).mono ?_; rintro e w5 ⟨rfl, hb⟩; have HB := Lib.hid (HB.out.trans (hb.mono HB.out.size)); clear hb) | (go_at_call 18; refine (fits_any n u _).mono ?_; rw [HF.out]; rintro e w6 ⟨rfl, rfl⟩) | (go_at_call 21; refine (fitsR_any n u _).mono ?_; rw [HF.out]; rintro e w7 ⟨rfl, rfl⟩))
  go_ret
  exact ⟨rfl, HB.out⟩

theorem upF_ok {n u : Int} (h : (upF n u).2 = 0) : 0 ≤ n ∧ n ≤ 1125899906842624 ∧ 1 ≤ u ∧ u ≤ 1125899906842624 ∧ (upF n u).1 = (n + u - 1) / u * u ∧ (n + u - 1) / u * u ≤ 1125899906842624 := by
  unfold upF at h ⊢
  split
  · rename_i hb; rw [if_pos hb] at h; simp at h
  · rename_i hb
    rw [if_neg hb] at h
    split
    · rename_i hc; rw [if_pos hc] at h; simp at h
    · exact ⟨by omega, by omega, by omega, by omega, rfl, by omega⟩
theorem upF_bad {n u : Int} (h : (upF n u).2 ≠ 0) : upF n u = (0, 3) := by
  unfold upF at h ⊢
  split
  · rfl
  · rename_i hb
    rw [if_neg hb] at h
    split
    · rfl
    · rename_i hc; rw [if_neg hc] at h; simp at h
theorem upF_again {n u : Int} (h : (upF n u).2 = 0) : upF (upF n u).1 u = ((upF n u).1, 0) := by
  obtain ⟨h1, h2, h3, h4, h5, h6⟩ := upF_ok h
  obtain ⟨f1, f2, f3⟩ := up_fact h1 h3
  rw [h5]
  generalize hx : (n + u - 1) / u * u = x at *
  obtain ⟨g1, g2, g3⟩ := up_fact (show 0 ≤ x by omega) h3
  have := up_least (show 0 ≤ x by omega) h3 (Int.le_refl x) f3
  have e : (x + u - 1) / u * u = x := by omega
  unfold upF
  rw [if_neg (by omega), e, if_neg (by omega)]

set_option maxRecDepth 100000 in
set_option maxHeartbeats 2000000 in
theorem up_walk (n u : Int) (w : World) (hT : Tabs w) : Calls Tryd.prog 6 #[.int .i64 n, .int .i64 u] w fun e w' => e = .returned (.bool true) ∧ Below w.heap.size w w' := by
  have HT := Lib.hid hT
  clear hT
  by_cases hok : (upF n u).2 = 0
  · obtain ⟨h1, h2, h3, h4, h5, h6⟩ := upF_ok hok
    obtain ⟨f1, f2, f3⟩ := up_fact h1 h3
    have hag := upF_again hok
    rw [h5] at hag
    have HP := Lib.hid (show pRes (upF n u) = .tuple #[.int .i64 ((n + u - 1) / u * u), .int .i64 0] by unfold pRes; rw [h5, hok])
    generalize hx : (n + u - 1) / u * u = x at *
    have HA := Lib.hid (show pRes (upF x u) = .tuple #[.int .i64 x, .int .i64 0] by rw [hag]; rfl)
    have ht : x.tmod u = x % u := Int.tmod_eq_emod_of_nonneg (by omega)
    have hw : wrap64 (x - n) = x - n := by unfold wrap64; omega
    clear hx hok h5 hag
    go_enter Tryd.func6, Tryd.ntmps6
    go_wp2_with (first | (go_at_call 17; have hp := HP.out; refine (up_any n u _).mono ?_; rw [hp]; clear HP hp; rintro e w3 ⟨rfl, rfl⟩) | (go_at_call 17; refine (up_any x u _).mono ?_; rw [HA.out]; rintro e w4 ⟨rfl, rfl⟩) | (go_at_call 15; refine (live_any _ HT.out).mono ?_; rintro e w5 ⟨rfl, hb⟩; have HB := Lib.hid hb; clear hb))
    go_ret
    exact ⟨rfl, HB.out⟩
  · have HP := Lib.hid (show pRes (upF n u) = .tuple #[.int .i64 0, .int .i64 3] by rw [upF_bad hok]; rfl)
    clear hok
    go_enter Tryd.func6, Tryd.ntmps6
    go_wp2_with (first | (go_at_call 17; refine (up_any n u _).mono ?_; rw [HP.out]; rintro e w3 ⟨rfl, rfl⟩) | (go_at_call 15; refine (live_any _ HT.out).mono ?_; rintro e w5 ⟨rfl, hb⟩; have HB := Lib.hid hb; clear hb))
    go_ret
    exact ⟨rfl, HB.out⟩

end Go.Proofs.YtcokgpjmhacmeaaDoor
