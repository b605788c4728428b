/- Layer 5 (blocks): BlocksNone: the walk. -/
import Derived.Test.YtmkfiecdgghceaaOpen
import Derived.Test.YtmkfiecdgghceaaC12
namespace Go.Proofs.Ytmkfiecdgghceaa
open Go.RowKit
set_option linter.unusedVariables false
set_option linter.unusedSimpArgs false

def NewB (w : World) (n : Int) (e : Ending) (w' : World) : Prop := Below w.heap.size w w' ∧ ((n < 1 ∨ 4096 < n) ∧ e = .returned (.pointer none) ∨ (1 ≤ n ∧ n ≤ 4096) ∧ ∃ p, e = .returned (.pointer (some ⟨p, 0, none⟩)))
theorem new_both (n : Int) (w : World) : Calls Try.prog 16 #[.int .i64 n] w (NewB w n) := by
  by_cases h : n < 1 ∨ 4096 < n
  · refine (new_bad n w h).mono ?_
    rintro e w' ⟨rfl, rfl⟩
    exact ⟨Below.refl _ _, .inl ⟨h, rfl⟩⟩
  · refine (new_any n w (by omega) (by omega)).mono ?_
    rintro e w' ⟨p, rfl, _, hb⟩
    exact ⟨hb, .inr ⟨by omega, p, rfl⟩⟩

set_option maxRecDepth 100000 in
set_option maxHeartbeats 4000000 in
theorem none_walk (kind keep torn : Int) (y : Value) (l : Bs) (n : Int) (w : World) (h : ArgB w w.heap.size y l) :
    Calls Try.prog 10 #[.agg #[.int .i64 kind, .int .i64 keep, .int .i64 torn, y], .int .i64 n] w fun e w' => e = .returned (.bool true) ∧ Below w.heap.size w w' := by
  obtain ⟨a, c, rfl, h1, h2⟩ := h.lv
  have hl : l.length ≤ maxLen := Nat.le_trans h1 h2
  clear h
  generalize l.length = len at *
  clear h1 h2
  have HL := Lib.hid hl
  clear hl
  rcases (show (n < 1) ∨ (1 ≤ n ∧ 4096 < n) ∨ (1 ≤ n ∧ n ≤ 4096) by omega) with hn | ⟨hn, hn2⟩ | ⟨hn, hn2⟩ <;>
  · try have t1 : ¬ n < 1 := by omega
    try have t2 : ¬ 4096 < n := by omega
    go_enter Try.func10, Try.ntmps10
    go_wp2_with (first | (go_at_call 11; refine (live_any _).mono ?_; rintro e w1 ⟨rfl, hb⟩; have HB := Lib.hid (((Below.refl _ w).alloc (Nat.le_refl _) (.cells #[.int .i64 kind, .int .i64 keep, .int .i64 torn, .slice a len c] 30)).trans (hb.mono (by simp))); obtain ⟨k1, _⟩ := cells_of_block ((hb.block w.heap.size (by simp)).trans heap_alloc_eq) 1 _ rfl; obtain ⟨k2, _⟩ := cells_of_block ((hb.block w.heap.size (by simp)).trans heap_alloc_eq) 2 _ rfl; obtain ⟨k3, _⟩ := cells_of_block ((hb.block w.heap.size (by simp)).trans heap_alloc_eq) 3 _ rfl; clear hb) | (go_at_call 17; refine (append_nil _ a len c HL.out).mono ?_; rintro e w2 ⟨rfl, rfl⟩) | (go_at_call 18; refine (sync_nil _).mono ?_; rintro e w2 ⟨rfl, rfl⟩) | (go_at_call 20; refine (crash_nil _ _ _).mono ?_; rintro e w2 ⟨rfl, rfl⟩) | (go_at_call 23; refine (clean_nil _).mono ?_; rintro e w2 ⟨rfl, rfl⟩) | (go_at_call 19; refine (records_nil _).mono ?_; rintro e w3 ⟨u3, rfl, ho, hb⟩; obtain ⟨a3, c3, rfl⟩ := ho.lv; have HB := Lib.hid (HB.out.trans (hb.mono HB.out.size)); clear ho hb) | (go_at_call 24; refine (free_nil _).mono ?_; rintro e w2 ⟨rfl, rfl⟩) | (go_at_call 27; refine (bytes_nil _).mono ?_; rintro e w4 ⟨u4, rfl, ho, hb⟩; obtain ⟨a4, c4, rfl⟩ := ho.lv; have HB := Lib.hid (HB.out.trans (hb.mono HB.out.size)); clear ho hb) | (go_at_call 28; refine (fork_nil _).mono ?_; rintro e w2 ⟨rfl, rfl⟩) | (go_at_call 16; refine (new_both n _).mono ?_; rintro e w5 ⟨hb, ⟨hx, rfl⟩ | ⟨hx, p, rfl⟩⟩ <;> first | omega | (have HB := Lib.hid (HB.out.trans (hb.mono HB.out.size)); clear hb)))
    all_goals
      go_ret
      refine ⟨ret_bool ?_, HB.out⟩
      first | rfl | (simp; done) | (simp; omega)

end Go.Proofs.Ytmkfiecdgghceaa
