/- Layer 1 (quant): the walk of QuantBack. -/
import Derived.Test.YtcokgpjmhacmeaaDoorX3
namespace Go.Proofs.YtcokgpjmhacmeaaDoor
open Go.RowKit
set_option linter.unusedVariables false
set_option linter.unusedSimpArgs false
open Go.Shelf

theorem parse_text (l : Bs) (hl : l.length ≤ 9223372036854775807) (w : World) : Calls Tryd.prog 11 #[.string ⟨l.toArray⟩] w fun e w' => e = .returned (pRes (parseF l)) ∧ Below w.heap.size w w' := by
  have h := parse_any ⟨l.toArray⟩ (by simpa [ByteArray.size] using hl) w
  simpa using h
theorem printN_len {N : Nat} (h : N ≤ 1125899906842624) : (printN N).length ≤ 18 := by
  rw [printN_at, List.length_append]
  have h1 := dec_len (N / 1024 ^ (if N = 0 then 0 else tz N)) (Nat.le_trans (Nat.div_le_self _ _) h)
  have h2 : ∀ k, (sfxI k).length ≤ 2 := fun k => by unfold sfxI; split <;> simp
  have := h2 (if N = 0 then 0 else tz N)
  omega
/-- what is printed is parsed as the size -/
theorem back_print {N : Nat} (h : N ≤ 1125899906842624) : ∃ P : ByteArray, sRes (printF (N : Int)) = .tuple #[.string P, .int .i64 0] ∧ ∀ w, Calls Tryd.prog 11 #[.string P] w fun e w' => e = .returned (.tuple #[.int .i64 (N : Int), .int .i64 0]) ∧ Below w.heap.size w w' := by
  refine ⟨⟨(printN N).toArray⟩, ?_, fun w => ?_⟩
  · unfold printF; rw [if_neg (by omega), Int.toNat_natCast]; rfl
  · have := parse_text (printN N) (by have := printN_len h; omega) w
    rw [parse_print h] at this
    exact this

set_option maxRecDepth 100000 in
set_option maxHeartbeats 4000000 in
theorem back_walk (n : Int) (s : ByteArray) (hs : s.size ≤ 9223372036854775807) (w : World) (hT : Tabs w) : Calls Tryd.prog 4 #[.int .i64 n, .string s] w fun e w' => e = .returned (.bool true) ∧ Below w.heap.size w w' := by
  have HT := Lib.hid hT
  have HB := Lib.hid (Below.refl w.heap.size w)
  clear hT
  obtain ⟨f1, f2, f3⟩ := parseF_bnd s.data.toList
  by_cases hok : (parseF s.data.toList).2 = 0
  · obtain ⟨M, hM⟩ : ∃ M : Nat, (parseF s.data.toList).1 = (M : Int) := ⟨(parseF s.data.toList).1.toNat, by omega⟩
    have HPa := Lib.hid (show pRes (parseF s.data.toList) = .tuple #[.int .i64 (M : Int), .int .i64 0] by unfold pRes; rw [hM, hok])
    obtain ⟨P2, h2a, h2b⟩ := back_print (N := M) (by omega)
    have HS2 := Lib.hid h2a
    have HQ2 := Lib.hid h2b
    clear h2a h2b f1 f2 f3 hok hM
    by_cases hn : 0 ≤ n ∧ n ≤ 1125899906842624
    · obtain ⟨N, rfl⟩ : ∃ N : Nat, n = (N : Int) := ⟨n.toNat, by omega⟩
      obtain ⟨P1, h1a, h1b⟩ := back_print (N := N) (by omega)
      have HS1 := Lib.hid h1a
      have HQ1 := Lib.hid h1b
      clear h1a h1b hn
      go_enter Tryd.func4, Tryd.ntmps4
      go_wp2_with (first | (go_at_call 16; have hp := HS1.out; refine (print_any (N : Int) _ HT.out).mono ?_; rw [hp]; clear HS1 hp; rintro e w1 ⟨rfl, hb⟩; have HT := Lib.hid (HT.out.below hb); have HB := Lib.hid (HB.out.trans (hb.mono HB.out.size)); clear hb) | (go_at_call 11; have hp := HQ1.out; refine (hp _).mono ?_; clear HQ1 hp; rintro e w2 ⟨rfl, hb⟩; have HT := Lib.hid (HT.out.below hb); have HB := Lib.hid (HB.out.trans (hb.mono HB.out.size)); clear hb) | (go_at_call 11; have hp := HPa.out; refine (parse_any s hs _).mono ?_; rw [hp]; clear HPa hp; rintro e w3 ⟨rfl, hb⟩; have HT := Lib.hid (HT.out.below hb); have HB := Lib.hid (HB.out.trans (hb.mono HB.out.size)); clear hb) | (go_at_call 16; have hp := HS2.out; refine (print_any _ _ HT.out).mono ?_; rw [hp]; clear HS2 hp; rintro e w4 ⟨rfl, hb⟩; have HT := Lib.hid (HT.out.below hb); have HB := Lib.hid (HB.out.trans (hb.mono HB.out.size)); clear hb) | (go_at_call 11; have hp := HQ2.out; refine (hp _).mono ?_; clear HQ2 hp; rintro e w5 ⟨rfl, hb⟩; have HT := Lib.hid (HT.out.below hb); have HB := Lib.hid (HB.out.trans (hb.mono HB.out.size)); clear hb) | (go_at_call 15; refine (live_any _ HT.out).mono ?_; rintro e w6 ⟨rfl, hb⟩; have HT := Lib.hid (HT.out.below hb); have HB := Lib.hid (HB.out.trans (hb.mono HB.out.size)); clear hb))
      go_ret
      exact ⟨rfl, HB.out⟩
    · have HS1 := Lib.hid (show sRes (printF n) = .tuple #[.string ⟨#[]⟩, .int .i64 3] by unfold printF; rw [if_pos (by omega)]; rfl)
      rcases (show n < 0 ∨ (0 ≤ n ∧ ¬ n ≤ 1125899906842624) by omega) with h1 | ⟨h1, h2⟩
      · clear hn
        go_enter Tryd.func4, Tryd.ntmps4
        go_wp2_with (first | (go_at_call 16; have hp := HS1.out; refine (print_any n _ HT.out).mono ?_; rw [hp]; clear HS1 hp; rintro e w1 ⟨rfl, hb⟩; have HT := Lib.hid (HT.out.below hb); have HB := Lib.hid (HB.out.trans (hb.mono HB.out.size)); clear hb) | (go_at_call 11; have hp := HPa.out; refine (parse_any s hs _).mono ?_; rw [hp]; clear HPa hp; rintro e w3 ⟨rfl, hb⟩; have HT := Lib.hid (HT.out.below hb); have HB := Lib.hid (HB.out.trans (hb.mono HB.out.size)); clear hb) | (go_at_call 16; have hp := HS2.out; refine (print_any _ _ HT.out).mono ?_; rw [hp]; clear HS2 hp; rintro e w4 ⟨rfl, hb⟩; have HT := Lib.hid (HT.out.below hb); have HB := Lib.hid (HB.out.trans (hb.mono HB.out.size)); clear hb) | (go_at_call 11; have hp := HQ2.out; refine (hp _).mono ?_; clear HQ2 hp; rintro e w5 ⟨rfl, hb⟩; have HT := Lib.hid (HT.out.below hb); have HB := Lib.hid (HB.out.trans (hb.mono HB.out.size)); clear hb) | (go_at_call 15; refine (live_any _ HT.out).mono ?_; rintro e w6 ⟨rfl, hb⟩; have HT := Lib.hid (HT.out.below hb); have HB := Lib.hid (HB.out.trans (hb.mono HB.out.size)); clear hb))
        go_ret
        exact ⟨rfl, HB.out⟩
      · clear hn
        go_enter Tryd.func4, Tryd.ntmps4
        go_wp2_with (first | (go_at_call 16; have hp := HS1.out; refine (print_any n _ HT.out).mono ?_; rw [hp]; clear HS1 hp; rintro e w1 ⟨rfl, hb⟩; have HT := Lib.hid (HT.out.below hb); have HB := Lib.hid (HB.out.trans (hb.mono HB.out.size)); clear hb) | (go_at_call 11; have hp := HPa.out; refine (parse_any s hs _).mono ?_; rw [hp]; clear HPa hp; rintro e w3 ⟨rfl, hb⟩; have HT := Lib.hid (HT.out.below hb); have HB := Lib.hid (HB.out.trans (hb.mono HB.out.size)); clear hb) | (go_at_call 16; have hp := HS2.out; refine (print_any _ _ HT.out).mono ?_; rw [hp]; clear HS2 hp; rintro e w4 ⟨rfl, hb⟩; have HT := Lib.hid (HT.out.below hb); have HB := Lib.hid (HB.out.trans (hb.mono HB.out.size)); clear hb) | (go_at_call 11; have hp := HQ2.out; refine (hp _).mono ?_; clear HQ2 hp; rintro e w5 ⟨rfl, hb⟩; have HT := Lib.hid (HT.out.below hb); have HB := Lib.hid (HB.out.trans (hb.mono HB.out.size)); clear hb) | (go_at_call 15; refine (live_any _ HT.out).mono ?_; rintro e w6 ⟨rfl, hb⟩; have HT := Lib.hid (HT.out.below hb); have HB := Lib.hid (HB.out.trans (hb.mono HB.out.size)); clear hb))
        go_ret
        exact ⟨rfl, HB.out⟩
  · have HPa := Lib.hid (show ∃ c : Int, c ≠ 0 ∧ pRes (parseF s.data.toList) = .tuple #[.int .i64 0, .int .i64 c] from ⟨_, hok, by unfold pRes; rcases f3 with f3 | ⟨_, f3⟩; exact absurd f3 hok; rw [f3]⟩)
    clear f1 f2 f3 hok
    obtain ⟨c, hc, hpc⟩ := HPa.out
    clear HPa
    have HPa := Lib.hid hpc
    have hc' : (c == 0) = false := beq_false_of_ne hc
    clear hpc
    by_cases hn : 0 ≤ n ∧ n ≤ 1125899906842624
    · obtain ⟨N, rfl⟩ : ∃ N : Nat, n = (N : Int) := ⟨n.toNat, by omega⟩
      obtain ⟨P1, h1a, h1b⟩ := back_print (N := N) (by omega)
      have HS1 := Lib.hid h1a
      have HQ1 := Lib.hid h1b
      clear h1a h1b hn
      go_enter Tryd.func4, Tryd.ntmps4
      go_wp2_with (first | (go_at_call 16; have hp := HS1.out; refine (print_any (N : Int) _ HT.out).mono ?_; rw [hp]; clear HS1 hp; rintro e w1 ⟨rfl, hb⟩; have HT := Lib.hid (HT.out.below hb); have HB := Lib.hid (HB.out.trans (hb.mono HB.out.size)); clear hb) | (go_at_call 11; have hp := HQ1.out; refine (hp _).mono ?_; clear HQ1 hp; rintro e w2 ⟨rfl, hb⟩; have HT := Lib.hid (HT.out.below hb); have HB := Lib.hid (HB.out.trans (hb.mono HB.out.size)); clear hb) | (go_at_call 11; have hp := HPa.out; refine (parse_any s hs _).mono ?_; rw [hp]; clear HPa hp; rintro e w3 ⟨rfl, hb⟩; have HT := Lib.hid (HT.out.below hb); have HB := Lib.hid (HB.out.trans (hb.mono HB.out.size)); clear hb) | (go_at_call 15; refine (live_any _ HT.out).mono ?_; rintro e w6 ⟨rfl, hb⟩; have HT := Lib.hid (HT.out.below hb); have HB := Lib.hid (HB.out.trans (hb.mono HB.out.size)); clear hb))
      go_ret
      exact ⟨rfl, HB.out⟩
    · have HS1 := Lib.hid (show sRes (printF n) = .tuple #[.string ⟨#[]⟩, .int .i64 3] by unfold printF; rw [if_pos (by omega)]; rfl)
      rcases (show n < 0 ∨ (0 ≤ n ∧ ¬ n ≤ 1125899906842624) by omega) with h1 | ⟨h1, h2⟩
      · clear hn
        go_enter Tryd.func4, Tryd.ntmps4
        go_wp2_with (first | (go_at_call 16; have hp := HS1.out; refine (print_any n _ HT.out).mono ?_; rw [hp]; clear HS1 hp; rintro e w1 ⟨rfl, hb⟩; have HT := Lib.hid (HT.out.below hb); have HB := Lib.hid (HB.out.trans (hb.mono HB.out.size)); clear hb) | (go_at_call 11; have hp := HPa.out; refine (parse_any s hs _).mono ?_; rw [hp]; clear HPa hp; rintro e w3 ⟨rfl, hb⟩; have HT := Lib.hid (HT.out.below hb); have HB := Lib.hid (HB.out.trans (hb.mono HB.out.size)); clear hb) | (go_at_call 15; refine (live_any _ HT.out).mono ?_; rintro e w6 ⟨rfl, hb⟩; have HT := Lib.hid (HT.out.below hb); have HB := Lib.hid (HB.out.trans (hb.mono HB.out.size)); clear hb))
        go_ret
        exact ⟨rfl, HB.out⟩
      · clear hn
        go_enter Tryd.func4, Tryd.ntmps4
        go_wp2_with (first | (go_at_call 16; have hp := HS1.out; refine (print_any n _ HT.out).mono ?_; rw [hp]; clear HS1 hp; rintro e w1 ⟨rfl, hb⟩; have HT := Lib.hid (HT.out.below hb); have HB := Lib.hid (HB.out.trans (hb.mono HB.out.size)); clear hb) | (go_at_call 11; have hp := HPa.out; refine (parse_any s hs _).mono ?_; rw [hp]; clear HPa hp; rintro e w3 ⟨rfl, hb⟩; have HT := Lib.hid (HT.out.below hb); have HB := Lib.hid (HB.out.trans (hb.mono HB.out.size)); clear hb) | (go_at_call 15; refine (live_any _ HT.out).mono ?_; rintro e w6 ⟨rfl, hb⟩; have HT := Lib.hid (HT.out.below hb); have HB := Lib.hid (HB.out.trans (hb.mono HB.out.size)); clear hb))
        go_ret
        exact ⟨rfl, HB.out⟩

end Go.Proofs.YtcokgpjmhacmeaaDoor
