/- Layer 5 (blocks): check sums, sizes; bytes that are read. -/
import Derived.Test.YtmkfiecdgghceaaRows
import Derived.Test.YtmkfiecdgghceaaPure
import Derived.WalkKit
import Derived.WalkLawsBesides
import Derived.WalkSpells
import Derived.Below
import Derived.LoopTactic
import Derived.Lib.Hide
import Derived.Laws.Bits64
import Derived.Laws.BitsAllLaws
namespace Go.Proofs.Ytmkfiecdgghceaa
open Go.RowKit
set_option linter.unusedVariables false
set_option linter.unusedSimpArgs false

theorem ret_int {k : IntKind} {a b : Int} (h : a = b) : Ending.returned (.int k a) = .returned (.int k b) := by rw [h]
theorem ret_bool {a b : Bool} (h : a = b) : Ending.returned (.bool a) = .returned (.bool b) := by rw [h]

/-- bytes at an address -/
def RdAt (w : World) (a : Option Addr) (l : Bs) : Prop := l = [] ∨ ∃ b o, a = some ⟨b, o, none⟩ ∧ ∀ k (hk : k < l.length), w.cell? ⟨b, o + k, none⟩ = some (.int .u8 (l[k].toNat : Int))

theorem or_u32 (a b : Nat) (ha : a < 65536) (hb : b < 65536) : bits .or .u32 ((a : Int) * 65536) (b : Int) = ((a * 65536 + b : Nat) : Int) := by
  have e : ((a : Int) * 65536) = ((a * 65536 : Nat) : Int) := by omega
  rw [e, u32_or_nat _ _ (by omega) (by omega)]
  have := Nat.two_pow_add_eq_or_of_lt (i := 16) (b := b) hb a
  rw [show (2 ^ 16 : Nat) = 65536 from rfl, Nat.mul_comm] at this
  rw [this]
theorem adl_bnd (l : Bs) : (adl l).1 < 65521 ∧ (adl l).2 < 65521 := adl_lt l

set_option maxRecDepth 100000 in
set_option maxHeartbeats 1000000 in
theorem sum_any (l : Bs) (a : Option Addr) (c : Nat) (w : World) (hl : l.length ≤ 1000000) (h : RdAt w a l) :
    Calls Try.prog 12 #[.slice a l.length c] w fun e w' => e = .returned (.int .u32 (adler l : Int)) ∧ w' = w := by
  have H := Lib.hid h
  clear h
  go_enter Try.func12, Try.ntmps12
  go_wp2
  go_loop [3, 4, 9] (fun x y i => ∃ k : Nat, k ≤ l.length ∧ i = .int .i64 k ∧ x = .int .i64 ((adl (l.take k)).1 : Int) ∧ y = .int .i64 ((adl (l.take k)).2 : Int)) (fun _ _ i => l.length - (intOf i).toNat)
  case atStart => exact ⟨0, Nat.zero_le _, rfl, rfl, rfl⟩
  case round =>
    obtain ⟨k, hk, rfl, rfl, rfl⟩ := hrel
    have hb := adl_bnd (l.take k)
    obtain ⟨hx, hy⟩ := hb
    by_cases hlt : k < l.length
    · obtain ⟨b, o, rfl, hc⟩ : ∃ b o, a = some ⟨b, o, none⟩ ∧ ∀ k (hk : k < l.length), w.cell? ⟨b, o + k, none⟩ = some (.int .u8 (l[k].toNat : Int)) := by
        rcases H.out with h | h
        · rw [h] at hlt; simp at hlt
        · exact h
      have hck := hc k hlt
      clear hc
      have hu := l[k].toNat_lt
      have ht := adl_take l k hlt
      have HT := Lib.hid ht
      clear ht
      obtain ⟨X, hX⟩ : ∃ X, (adl (l.take k)).1 = X := ⟨_, rfl⟩
      obtain ⟨Y, hY⟩ : ∃ Y, (adl (l.take k)).2 = Y := ⟨_, rfl⟩
      obtain ⟨C, hC⟩ : ∃ C, l[k].toNat = C := ⟨_, rfl⟩
      rw [hX] at hx ⊢; rw [hY] at hy ⊢; rw [hC] at hck hu
      have HX := Lib.hid hX; have HY := Lib.hid hY; have HC := Lib.hid hC
      clear hX hY hC
      go_wp2
      go_round
      case rel =>
        refine ⟨k + 1, by omega, by go_num, ?_, ?_⟩
        · rw [HT.out, stepA, HX.out, HC.out]; go_num
        · rw [HT.out, stepA, HX.out, HY.out, HC.out]; simp only [Value.int.injEq, true_and]; omega
      case measure => simp [intOf]; omega
    · obtain rfl : k = l.length := by omega
      rw [List.take_length] at *
      go_wp2
      go_ret
      exact ⟨ret_int (by rw [or_u32 _ _ (by omega) (by omega)]; rfl), rfl⟩

set_option maxRecDepth 100000 in
set_option maxHeartbeats 1000000 in
theorem sumR_any (l : Bs) (a : Option Addr) (c : Nat) (w : World) (hl : l.length ≤ 1000000) (h : RdAt w a l) :
    Calls Try.prog 13 #[.slice a l.length c] w fun e w' => e = .returned (.int .u32 (adler l : Int)) ∧ w' = w := by
  have H := Lib.hid h
  clear h
  go_enter Try.func13, Try.ntmps13
  go_wp2
  go_loop [3, 4, 5] (fun x y i => ∃ k : Nat, k ≤ l.length ∧ i = .int .i64 k ∧ x = .int .u32 ((adl (l.take k)).1 : Int) ∧ y = .int .u32 ((adl (l.take k)).2 : Int)) (fun _ _ i => l.length - (intOf i).toNat)
  case atStart => exact ⟨0, Nat.zero_le _, rfl, rfl, rfl⟩
  case round =>
    obtain ⟨k, hk, rfl, rfl, rfl⟩ := hrel
    have hb := adl_bnd (l.take k)
    obtain ⟨hx, hy⟩ := hb
    by_cases hlt : k < l.length
    · obtain ⟨b, o, rfl, hc⟩ : ∃ b o, a = some ⟨b, o, none⟩ ∧ ∀ k (hk : k < l.length), w.cell? ⟨b, o + k, none⟩ = some (.int .u8 (l[k].toNat : Int)) := by
        rcases H.out with h | h
        · rw [h] at hlt; simp at hlt
        · exact h
      have hck := hc k hlt
      clear hc
      have hu := l[k].toNat_lt
      have ht := adl_take l k hlt
      have HT := Lib.hid ht
      clear ht
      obtain ⟨X, hX⟩ : ∃ X, (adl (l.take k)).1 = X := ⟨_, rfl⟩
      obtain ⟨Y, hY⟩ : ∃ Y, (adl (l.take k)).2 = Y := ⟨_, rfl⟩
      obtain ⟨C, hC⟩ : ∃ C, l[k].toNat = C := ⟨_, rfl⟩
      rw [hX] at hx ⊢; rw [hY] at hy ⊢; rw [hC] at hck hu
      have HX := Lib.hid hX; have HY := Lib.hid hY; have HC := Lib.hid hC
      clear hX hY hC
      go_wp2
      go_round
      case rel =>
        refine ⟨k + 1, by omega, by go_num, ?_, ?_⟩
        · rw [HT.out, stepA, HX.out, HC.out]; go_num
        · rw [HT.out, stepA, HX.out, HY.out, HC.out]; simp only [Value.int.injEq, true_and]; omega
      case measure => simp [intOf]; omega
    · obtain rfl : k = l.length := by omega
      rw [List.take_length] at *
      go_wp2
      go_ret
      exact ⟨ret_int (by unfold adler; omega), rfl⟩

set_option maxHeartbeats 1000000 in
theorem need_any (n : Int) (w : World) : Calls Try.prog 14 #[.int .i64 n] w fun e w' => e = .returned (.int .i64 (need n)) ∧ w' = w := by
  by_cases h1 : n < 1
  · go_enter Try.func14, Try.ntmps14
    go_wp2
    go_ret
    exact ⟨ret_int (by unfold need; rw [if_pos (.inl h1)]), rfl⟩
  by_cases h2 : 1024 < n
  · go_enter Try.func14, Try.ntmps14
    go_wp2
    go_ret
    exact ⟨ret_int (by unfold need; rw [if_pos (.inr h2)]), rfl⟩
  · go_enter Try.func14, Try.ntmps14
    go_wp2
    go_ret
    exact ⟨ret_int (by unfold need; rw [if_neg (by omega)]; omega), rfl⟩
set_option maxHeartbeats 1000000 in
theorem needR_any (n : Int) (w : World) : Calls Try.prog 15 #[.int .i64 n] w fun e w' => e = .returned (.int .i64 (need n)) ∧ w' = w := by
  by_cases h1 : n < 1
  · go_enter Try.func15, Try.ntmps15
    go_wp2
    go_ret
    exact ⟨ret_int (by unfold need; rw [if_pos (.inl h1)]), rfl⟩
  by_cases h2 : 1024 < n
  · go_enter Try.func15, Try.ntmps15
    go_wp2
    go_ret
    exact ⟨ret_int (by unfold need; rw [if_pos (.inr h2)]), rfl⟩
  · go_enter Try.func15, Try.ntmps15
    go_wp2
    go_ret
    exact ⟨ret_int (by unfold need; rw [if_neg (by omega)]; omega), rfl⟩

end Go.Proofs.Ytmkfiecdgghceaa
