/- Layer 1 (quant): the suffixes, one by one; units. -/
import Derived.Test.YtcokgpjmhacmeaaDoorQ1
import Derived.RangeFuncNested
import Derived.RangeFuncBound
import Derived.RangeFuncCalls
import Derived.RangeFuncLeaves
import Derived.Shelf.Abstract
import Derived.Shelf.RegionOpen
import Derived.WalkKit
import Derived.OwnWalkIn
import Derived.TacticsInMore
import Derived.LoopNIn
import Derived.LoopIn
import Derived.Lib.Hide
namespace Go.Proofs.YtcokgpjmhacmeaaDoor
open Go.RowKit
set_option linter.unusedVariables false
set_option linter.unusedSimpArgs false
open Go.Shelf
attribute [local go_sem] Oper.semAt_some

def encS (x : Bs × Nat) : Array Value := #[.string ⟨x.1.toArray⟩, .int .i64 (x.2 : Int)]

theorem sfx_any (w : World) : Calls Tryd.prog 25 #[] w fun e w' => e = .returned (.func (.func 35) #[] #[]) ∧ w' = w := by
  go_enter Tryd.func25, Tryd.ntmps25
  go_wp2
  go_ret
  exact ⟨rfl, rfl⟩

set_option maxRecDepth 100000 in
set_option maxHeartbeats 4000000 in
theorem sfx1_stops (n₀ : Nat) (w0 : World) : SeqStopsK Fence.wide 2 Tryd.prog 35 #[] encS (Below n₀) (fun xs => xs = sfx) (fun pre => pre <+: sfx) 9 w0 := by
  intro l J Jx W hW hJ hJx hY h0
  have HY := Lib.hid hY
  clear hY
  obtain ⟨fn, tmps, assign, body, hy0, hR⟩ := HY.out [] ([], 1) W h0 (by decide)
  have hy : (Instr.yield l #[.string ⟨#[]⟩, .int .i64 1]).run Tryd.prog W = .ok (.round l fn tmps assign body) W := hy0
  have HR := Lib.hid hR
  clear hR hy0
  refine callsIn_of_wp Tryd.func35 rfl trivial ?_ rfl
  simp only [Tryd.ntmps35, List.size_toArray, List.length_cons, List.length_nil, Nat.reduceAdd, Nat.reduceSub, Array.replicate_succ, Array.replicate_zero, List.push_toArray, List.append_toArray, List.nil_append, List.cons_append]
  gi_wp2
  refine HR.out.mono ?_
  clear HR hy
  rintro e W1 (⟨rfl, h1, hk⟩ | ⟨rfl, h1⟩)
  rotate_left
  · gi_wp2
    exact bodyPost_ret (results_none rfl _ _ _) rfl ⟨⟨_, rfl⟩, .inr ⟨[([], 1)], by decide, h1⟩⟩
  clear hk
  gi_wp2
  gi_loopw [2, 8] (fun t i wr => ∃ j : Nat, j ≤ 4 ∧ t = .int .i64 ((1000 ^ j : Nat) : Int) ∧ i = .int .i64 j ∧ J (sfx.take (1 + 2 * j)) wr) (fun _ i _ => 4 - (intOf i).toNat)
  case atStart => exact ⟨0, by omega, by rfl, rfl, h1⟩
  case round =>
    obtain ⟨j, hj, rfl, rfl, hJr⟩ := hrel
    clear h1
    rcases (show j = 4 ∨ j = 0 ∨ j = 1 ∨ j = 2 ∨ j = 3 by omega) with rfl | rfl | rfl | rfl | rfl
    · gi_wp2
      go_end0
      exact ⟨⟨_, rfl⟩, .inl ⟨_, rfl, hJr⟩⟩
    · obtain ⟨fn1, tmps1, assign1, body1, hy1, hR1⟩ := HY.out (sfx.take 1) ([75], 1000) wr hJr (by decide)
      have hy : (Instr.yield l #[.string ((⟨#[75, 77, 71, 84]⟩ : ByteArray).extract 0 1), .int .i64 1000]).run Tryd.prog wr = .ok (.round l fn1 tmps1 assign1 body1) wr := by
        rw [show (⟨#[75, 77, 71, 84]⟩ : ByteArray).extract 0 1 = ⟨#[75]⟩ by decide]
        exact hy1
      have HR := Lib.hid hR1
      clear hR1 hy1
      gi_wp2
      refine HR.out.mono ?_
      clear HR hy
      rintro e W1 (⟨rfl, h1, hk⟩ | ⟨rfl, h1⟩)
      rotate_left
      · gi_wp2
        refine ⟨fun _ h => (by cases h), ?_⟩
        gi_wp2
        exact bodyPost_ret (results_none rfl _ _ _) rfl ⟨⟨_, rfl⟩, .inr ⟨sfx.take 2, by decide, h1⟩⟩
      have h2 : J (sfx.take 2) W1 := h1
      obtain ⟨fn2, tmps2, assign2, body2, hy2, hR2⟩ := HY.out (sfx.take 2) ([75, 105], 1024) W1 h2 (by decide)
      have hy : (Instr.yield l #[.string ((⟨#[75, 77, 71, 84]⟩ : ByteArray).extract 0 1 ++ ⟨#[105]⟩), .int .i64 1024]).run Tryd.prog W1 = .ok (.round l fn2 tmps2 assign2 body2) W1 := by
        rw [show (⟨#[75, 77, 71, 84]⟩ : ByteArray).extract 0 1 ++ ⟨#[105]⟩ = ⟨#[75, 105]⟩ by decide]
        exact hy2
      have HR := Lib.hid hR2
      clear hR2 hy2 h1 hJr hk
      gi_wp2
      refine HR.out.mono ?_
      clear HR hy
      rintro e W2 (⟨rfl, h3, hk⟩ | ⟨rfl, h3⟩)
      rotate_left
      · gi_wp2
        exact bodyPost_ret (results_none rfl _ _ _) rfl ⟨⟨_, rfl⟩, .inr ⟨sfx.take 3, by decide, h3⟩⟩
      have h4 : J (sfx.take (1 + 2 * 1)) W2 := h3
      gi_wp2
      go_roundw
      case rel => exact ⟨1, by omega, by rfl, by rfl, h4⟩
      case measure => simp [intOf]
    · obtain ⟨fn1, tmps1, assign1, body1, hy1, hR1⟩ := HY.out (sfx.take 3) ([77], 1000000) wr hJr (by decide)
      have hy : (Instr.yield l #[.string ((⟨#[75, 77, 71, 84]⟩ : ByteArray).extract 1 2), .int .i64 1000000]).run Tryd.prog wr = .ok (.round l fn1 tmps1 assign1 body1) wr := by
        rw [show (⟨#[75, 77, 71, 84]⟩ : ByteArray).extract 1 2 = ⟨#[77]⟩ by decide]
        exact hy1
      have HR := Lib.hid hR1
      clear hR1 hy1
      gi_wp2
      refine HR.out.mono ?_
      clear HR hy
      rintro e W1 (⟨rfl, h1, hk⟩ | ⟨rfl, h1⟩)
      rotate_left
      · gi_wp2
        refine ⟨fun _ h => (by cases h), ?_⟩
        gi_wp2
        exact bodyPost_ret (results_none rfl _ _ _) rfl ⟨⟨_, rfl⟩, .inr ⟨sfx.take 4, by decide, h1⟩⟩
      have h2 : J (sfx.take 4) W1 := h1
      obtain ⟨fn2, tmps2, assign2, body2, hy2, hR2⟩ := HY.out (sfx.take 4) ([77, 105], 1048576) W1 h2 (by decide)
      have hy : (Instr.yield l #[.string ((⟨#[75, 77, 71, 84]⟩ : ByteArray).extract 1 2 ++ ⟨#[105]⟩), .int .i64 1048576]).run Tryd.prog W1 = .ok (.round l fn2 tmps2 assign2 body2) W1 := by
        rw [show (⟨#[75, 77, 71, 84]⟩ : ByteArray).extract 1 2 ++ ⟨#[105]⟩ = ⟨#[77, 105]⟩ by decide]
        exact hy2
      have HR := Lib.hid hR2
      clear hR2 hy2 h1 hJr hk
      gi_wp2
      refine HR.out.mono ?_
      clear HR hy
      rintro e W2 (⟨rfl, h3, hk⟩ | ⟨rfl, h3⟩)
      rotate_left
      · gi_wp2
        exact bodyPost_ret (results_none rfl _ _ _) rfl ⟨⟨_, rfl⟩, .inr ⟨sfx.take 5, by decide, h3⟩⟩
      have h4 : J (sfx.take (1 + 2 * 2)) W2 := h3
      gi_wp2
      go_roundw
      case rel => exact ⟨2, by omega, by rfl, by rfl, h4⟩
      case measure => simp [intOf]
    · obtain ⟨fn1, tmps1, assign1, body1, hy1, hR1⟩ := HY.out (sfx.take 5) ([71], 1000000000) wr hJr (by decide)
      have hy : (Instr.yield l #[.string ((⟨#[75, 77, 71, 84]⟩ : ByteArray).extract 2 3), .int .i64 1000000000]).run Tryd.prog wr = .ok (.round l fn1 tmps1 assign1 body1) wr := by
        rw [show (⟨#[75, 77, 71, 84]⟩ : ByteArray).extract 2 3 = ⟨#[71]⟩ by decide]
        exact hy1
      have HR := Lib.hid hR1
      clear hR1 hy1
      gi_wp2
      refine HR.out.mono ?_
      clear HR hy
      rintro e W1 (⟨rfl, h1, hk⟩ | ⟨rfl, h1⟩)
      rotate_left
      · gi_wp2
        refine ⟨fun _ h => (by cases h), ?_⟩
        gi_wp2
        exact bodyPost_ret (results_none rfl _ _ _) rfl ⟨⟨_, rfl⟩, .inr ⟨sfx.take 6, by decide, h1⟩⟩
      have h2 : J (sfx.take 6) W1 := h1
      obtain ⟨fn2, tmps2, assign2, body2, hy2, hR2⟩ := HY.out (sfx.take 6) ([71, 105], 1073741824) W1 h2 (by decide)
      have hy : (Instr.yield l #[.string ((⟨#[75, 77, 71, 84]⟩ : ByteArray).extract 2 3 ++ ⟨#[105]⟩), .int .i64 1073741824]).run Tryd.prog W1 = .ok (.round l fn2 tmps2 assign2 body2) W1 := by
        rw [show (⟨#[75, 77, 71, 84]⟩ : ByteArray).extract 2 3 ++ ⟨#[105]⟩ = ⟨#[71, 105]⟩ by decide]
        exact hy2
      have HR := Lib.hid hR2
      clear hR2 hy2 h1 hJr hk
      gi_wp2
      refine HR.out.mono ?_
      clear HR hy
      rintro e W2 (⟨rfl, h3, hk⟩ | ⟨rfl, h3⟩)
      rotate_left
      · gi_wp2
        exact bodyPost_ret (results_none rfl _ _ _) rfl ⟨⟨_, rfl⟩, .inr ⟨sfx.take 7, by decide, h3⟩⟩
      have h4 : J (sfx.take (1 + 2 * 3)) W2 := h3
      gi_wp2
      go_roundw
      case rel => exact ⟨3, by omega, by rfl, by rfl, h4⟩
      case measure => simp [intOf]
    · obtain ⟨fn1, tmps1, assign1, body1, hy1, hR1⟩ := HY.out (sfx.take 7) ([84], 1000000000000) wr hJr (by decide)
      have hy : (Instr.yield l #[.string ((⟨#[75, 77, 71, 84]⟩ : ByteArray).extract 3 4), .int .i64 1000000000000]).run Tryd.prog wr = .ok (.round l fn1 tmps1 assign1 body1) wr := by
        rw [show (⟨#[75, 77, 71, 84]⟩ : ByteArray).extract 3 4 = ⟨#[84]⟩ by decide]
        exact hy1
      have HR := Lib.hid hR1
      clear hR1 hy1
      gi_wp2
      refine HR.out.mono ?_
      clear HR hy
      rintro e W1 (⟨rfl, h1, hk⟩ | ⟨rfl, h1⟩)
      rotate_left
      · gi_wp2
        refine ⟨fun _ h => (by cases h), ?_⟩
        gi_wp2
        exact bodyPost_ret (results_none rfl _ _ _) rfl ⟨⟨_, rfl⟩, .inr ⟨sfx.take 8, by decide, h1⟩⟩
      have h2 : J (sfx.take 8) W1 := h1
      obtain ⟨fn2, tmps2, assign2, body2, hy2, hR2⟩ := HY.out (sfx.take 8) ([84, 105], 1099511627776) W1 h2 (by decide)
      have hy : (Instr.yield l #[.string ((⟨#[75, 77, 71, 84]⟩ : ByteArray).extract 3 4 ++ ⟨#[105]⟩), .int .i64 1099511627776]).run Tryd.prog W1 = .ok (.round l fn2 tmps2 assign2 body2) W1 := by
        rw [show (⟨#[75, 77, 71, 84]⟩ : ByteArray).extract 3 4 ++ ⟨#[105]⟩ = ⟨#[84, 105]⟩ by decide]
        exact hy2
      have HR := Lib.hid hR2
      clear hR2 hy2 h1 hJr hk
      gi_wp2
      refine HR.out.mono ?_
      clear HR hy
      rintro e W2 (⟨rfl, h3, hk⟩ | ⟨rfl, h3⟩)
      rotate_left
      · gi_wp2
        exact bodyPost_ret (results_none rfl _ _ _) rfl ⟨⟨_, rfl⟩, .inr ⟨sfx.take 9, by decide, h3⟩⟩
      have h4 : J (sfx.take (1 + 2 * 4)) W2 := h3
      gi_wp2
      go_roundw
      case rel => exact ⟨4, by omega, by rfl, by rfl, h4⟩
      case measure => simp [intOf]

end Go.Proofs.YtcokgpjmhacmeaaDoor
