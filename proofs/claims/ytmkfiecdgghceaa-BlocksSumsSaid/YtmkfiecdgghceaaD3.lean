/- Layer 5 (blocks): BlocksSums: the walk. -/
import Derived.Test.YtmkfiecdgghceaaOpen
namespace Go.Proofs.Ytmkfiecdgghceaa
open Go.RowKit
set_option linter.unusedVariables false
set_option linter.unusedSimpArgs false

theorem sum_n (l : Bs) (n : Nat) (hn : l.length = n) (a : Option Addr) (c : Nat) (w : World) (hl : l.length ≤ 1000000) (h : RdAt w a l) :
    Calls Try.prog 12 #[.slice a n c] w fun e w' => e = .returned (.int .u32 (adler l : Int)) ∧ w' = w := by
  subst hn; exact sum_any l a c w hl h
theorem sumR_n (l : Bs) (n : Nat) (hn : l.length = n) (a : Option Addr) (c : Nat) (w : World) (hl : l.length ≤ 1000000) (h : RdAt w a l) :
    Calls Try.prog 13 #[.slice a n c] w fun e w' => e = .returned (.int .u32 (adler l : Int)) ∧ w' = w := by
  subst hn; exact sumR_any l a c w hl h
theorem Src.rdN {w : World} {a : Option Addr} {n c : Nat} {l : Bs} (h : Src w (.slice a n c) l) : RdAt w a l := by
  obtain ⟨a', c', e, h⟩ := h.rd
  simp only [Value.slice.injEq] at e
  obtain ⟨rfl, _, rfl⟩ := e
  exact h

set_option maxRecDepth 100000 in
set_option maxHeartbeats 4000000 in
theorem sums_walk (x : Value) (l : Bs) (n : Int) (w : World) (h : ArgB w w.heap.size x l) :
    Calls Try.prog 3 #[x, .int .i64 n] w fun e w' => e = .returned (.bool true) ∧ Below w.heap.size w w' := by
  obtain ⟨a, c, rfl, h1, h2⟩ := h.lv
  have HX := Lib.hid h
  have h3 := h2
  unfold maxLen at h3
  clear h
  by_cases hl : l.length ≤ 2000
  · have t1 : ¬ (2000 : Int) < (l.length : Int) := by omega
    go_enter Try.func3, Try.ntmps3
    go_wp2_with (first | (go_at_call 11; refine (live_any w).mono ?_; rintro e w1 ⟨rfl, hb⟩; have HB := Lib.hid hb; have HX := Lib.hid (HX.out.kept (Keeps.of_below hb)).isB.rdN; clear hb) | (go_at_call 12; refine (sum_n l l.length rfl a c _ (by omega) HX.out).mono ?_; rintro e w2 ⟨rfl, rfl⟩) | (go_at_call 13; refine (sumR_n l l.length rfl a c _ (by omega) HX.out).mono ?_; rintro e w2 ⟨rfl, rfl⟩) | (go_at_call 14; refine (need_any n _).mono ?_; rintro e w3 ⟨rfl, rfl⟩) | (go_at_call 15; refine (needR_any n _).mono ?_; rintro e w4 ⟨rfl, rfl⟩))
    go_ret
    exact ⟨rfl, HB.out⟩
  · have t1 : (2000 : Int) < (l.length : Int) := by omega
    have t2 : (2000 : Int) ≤ (c : Int) := by omega
    have HM := Lib.hid (HX.out.take (M := 2000) (by omega))
    clear HX
    have hm : (l.take 2000).length = 2000 := by rw [List.length_take]; omega
    generalize l.take 2000 = m at *
    generalize hk : l.length = k at *
    go_enter Try.func3, Try.ntmps3
    go_wp2_with (first | (go_at_call 11; refine (live_any w).mono ?_; rintro e w1 ⟨rfl, hb⟩; have HB := Lib.hid hb; have HM := Lib.hid (HM.out.kept (Keeps.of_below hb)).isB.rdN; clear hb) | (go_at_call 12; refine (sum_n m 2000 hm a c _ (by omega) HM.out).mono ?_; rintro e w2 ⟨rfl, rfl⟩) | (go_at_call 13; refine (sumR_n m 2000 hm a c _ (by omega) HM.out).mono ?_; rintro e w2 ⟨rfl, rfl⟩) | (go_at_call 14; refine (need_any n _).mono ?_; rintro e w3 ⟨rfl, rfl⟩) | (go_at_call 15; refine (needR_any n _).mono ?_; rintro e w4 ⟨rfl, rfl⟩))
    go_ret
    exact ⟨rfl, HB.out⟩

end Go.Proofs.Ytmkfiecdgghceaa
