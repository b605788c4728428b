/- Layer 5 (blocks): rows of bytes held against each other; copies. -/
import Derived.Test.YtobpohjhhelljaaKeeps
import Derived.Test.YtobpohjhhelljaaRows
import Derived.Test.YtobpohjhhelljaaPurB
import Derived.WalkKit
import Derived.WalkLawsBesides
import Derived.WalkSpells
import Derived.Below
import Derived.LoopTactic
import Derived.Lib.Hide
import Derived.Laws.Bits64
import Derived.Laws.BitsAllLaws
import Derived.OwnWalk
import Derived.ArgAppend
import Derived.Laws.AppendOwn
import Derived.Laws.AppendOwnNone
import Derived.Laws.MakeOwn
import Derived.Test.YtobpohjhhelljaaReg
namespace Go.Proofs.Ytobpohjhhelljaa
open Go.RowKit
set_option linter.unusedVariables false
set_option linter.unusedSimpArgs false

theorem or_u32 (a b : Nat) (ha : a < 65536) (hb : b < 65536) : bits .or .u32 ((a : Int) * 65536) (b : Int) = ((a * 65536 + b : Nat) : Int) := by
  have e : ((a : Int) * 65536) = ((a * 65536 : Nat) : Int) := by omega
  rw [e, u32_or_nat _ _ (by omega) (by omega)]
  have := Nat.two_pow_add_eq_or_of_lt (i := 16) (b := b) hb a
  rw [show (2 ^ 16 : Nat) = 65536 from rfl, Nat.mul_comm] at this
  rw [this]
theorem adl_bnd (l : Bs) : (adl l).1 < 65521 ∧ (adl l).2 < 65521 := adl_lt l

set_option maxRecDepth 100000 in
set_option maxHeartbeats 1000000 in
theorem sum_any (l : Bs) (a : Option Addr) (c : Nat) (w : World) (hl : l.length ≤ 1000000) (h : RdAt w a l) :
    Calls Try.prog 67 #[.slice a l.length c] w fun e w' => e = .returned (.int .u32 (adler l : Int)) ∧ w' = w := by
  have H := Lib.hid h
  clear h
  go_enter Try.func67, Try.ntmps67
  go_wp2
  go_loop [3, 4, 9] (fun x y i => ∃ k : Nat, k ≤ l.length ∧ i = .int .i64 k ∧ x = .int .i64 ((adl (l.take k)).1 : Int) ∧ y = .int .i64 ((adl (l.take k)).2 : Int)) (fun _ _ i => l.length - (intOf i).toNat)
  case atStart => exact ⟨0, Nat.zero_le _, rfl, rfl, rfl⟩
  case round =>
    obtain ⟨k, hk, rfl, rfl, rfl⟩ := hrel
    have hb := adl_bnd (l.take k)
    obtain ⟨hx, hy⟩ := hb
    by_cases hlt : k < l.length
    · obtain ⟨b, o, rfl, hc⟩ : ∃ b o, a = some ⟨b, o, none⟩ ∧ ∀ k (hk : k < l.length), w.cell? ⟨b, o + k, none⟩ = some (.int .u8 (l[k].toNat : Int)) := by
        rcases H.out with h | h
        · rw [h] at hlt; simp at hlt
        · exact h
      have hck := hc k hlt
      clear hc
      have hu := l[k].toNat_lt
      have ht := adl_take l k hlt
      have HT := Lib.hid ht
      clear ht
      obtain ⟨X, hX⟩ : ∃ X, (adl (l.take k)).1 = X := ⟨_, rfl⟩
      obtain ⟨Y, hY⟩ : ∃ Y, (adl (l.take k)).2 = Y := ⟨_, rfl⟩
      obtain ⟨C, hC⟩ : ∃ C, l[k].toNat = C := ⟨_, rfl⟩
      rw [hX] at hx ⊢; rw [hY] at hy ⊢; rw [hC] at hck hu
      have HX := Lib.hid hX; have HY := Lib.hid hY; have HC := Lib.hid hC
      clear hX hY hC
      go_wp2
      go_round
      case rel =>
        refine ⟨k + 1, by omega, by go_num, ?_, ?_⟩
        · rw [HT.out, stepA, HX.out, HC.out]; go_num
        · rw [HT.out, stepA, HX.out, HY.out, HC.out]; simp only [Value.int.injEq, true_and]; omega
      case measure => simp [intOf]; omega
    · obtain rfl : k = l.length := by omega
      rw [List.take_length] at *
      go_wp2
      go_ret
      exact ⟨ret_int (by rw [or_u32 _ _ (by omega) (by omega)]; rfl), rfl⟩

set_option maxRecDepth 100000 in
set_option maxHeartbeats 1000000 in
theorem sumR_any (l : Bs) (a : Option Addr) (c : Nat) (w : World) (hl : l.length ≤ 1000000) (h : RdAt w a l) :
    Calls Try.prog 129 #[.slice a l.length c] w fun e w' => e = .returned (.int .u32 (adler l : Int)) ∧ w' = w := by
  have H := Lib.hid h
  clear h
  go_enter Try.func129, Try.ntmps129
  go_wp2
  go_loop [3, 4, 5] (fun x y i => ∃ k : Nat, k ≤ l.length ∧ i = .int .i64 k ∧ x = .int .u32 ((adl (l.take k)).1 : Int) ∧ y = .int .u32 ((adl (l.take k)).2 : Int)) (fun _ _ i => l.length - (intOf i).toNat)
  case atStart => exact ⟨0, Nat.zero_le _, rfl, rfl, rfl⟩
  case round =>
    obtain ⟨k, hk, rfl, rfl, rfl⟩ := hrel
    have hb := adl_bnd (l.take k)
    obtain ⟨hx, hy⟩ := hb
    by_cases hlt : k < l.length
    · obtain ⟨b, o, rfl, hc⟩ : ∃ b o, a = some ⟨b, o, none⟩ ∧ ∀ k (hk : k < l.length), w.cell? ⟨b, o + k, none⟩ = some (.int .u8 (l[k].toNat : Int)) := by
        rcases H.out with h | h
        · rw [h] at hlt; simp at hlt
        · exact h
      have hck := hc k hlt
      clear hc
      have hu := l[k].toNat_lt
      have ht := adl_take l k hlt
      have HT := Lib.hid ht
      clear ht
      obtain ⟨X, hX⟩ : ∃ X, (adl (l.take k)).1 = X := ⟨_, rfl⟩
      obtain ⟨Y, hY⟩ : ∃ Y, (adl (l.take k)).2 = Y := ⟨_, rfl⟩
      obtain ⟨C, hC⟩ : ∃ C, l[k].toNat = C := ⟨_, rfl⟩
      rw [hX] at hx ⊢; rw [hY] at hy ⊢; rw [hC] at hck hu
      have HX := Lib.hid hX; have HY := Lib.hid hY; have HC := Lib.hid hC
      clear hX hY hC
      go_wp2
      go_round
      case rel =>
        refine ⟨k + 1, by omega, by go_num, ?_, ?_⟩
        · rw [HT.out, stepA, HX.out, HC.out]; go_num
        · rw [HT.out, stepA, HX.out, HY.out, HC.out]; simp only [Value.int.injEq, true_and]; omega
      case measure => simp [intOf]; omega
    · obtain rfl : k = l.length := by omega
      rw [List.take_length] at *
      go_wp2
      go_ret
      exact ⟨ret_int (by unfold adler; omega), rfl⟩

set_option maxRecDepth 100000 in
set_option maxHeartbeats 1000000 in
theorem need_any (n : Int) (w : World) : Calls Try.prog 38 #[.int .i64 n] w fun e w' => e = .returned (.int .i64 (need n)) ∧ w' = w := by
  by_cases h1 : n < 1
  · go_enter Try.func38, Try.ntmps38
    go_wp2
    go_ret
    exact ⟨ret_int (by unfold need; rw [if_pos (.inl h1)]), rfl⟩
  by_cases h2 : 1024 < n
  · go_enter Try.func38, Try.ntmps38
    go_wp2
    go_ret
    exact ⟨ret_int (by unfold need; rw [if_pos (.inr h2)]), rfl⟩
  · go_enter Try.func38, Try.ntmps38
    go_wp2
    go_ret
    exact ⟨ret_int (by unfold need; rw [if_neg (by omega)]; omega), rfl⟩
set_option maxRecDepth 100000 in
set_option maxHeartbeats 1000000 in
theorem needR_any (n : Int) (w : World) : Calls Try.prog 105 #[.int .i64 n] w fun e w' => e = .returned (.int .i64 (need n)) ∧ w' = w := by
  by_cases h1 : n < 1
  · go_enter Try.func105, Try.ntmps105
    go_wp2
    go_ret
    exact ⟨ret_int (by unfold need; rw [if_pos (.inl h1)]), rfl⟩
  by_cases h2 : 1024 < n
  · go_enter Try.func105, Try.ntmps105
    go_wp2
    go_ret
    exact ⟨ret_int (by unfold need; rw [if_pos (.inr h2)]), rfl⟩
  · go_enter Try.func105, Try.ntmps105
    go_wp2
    go_ret
    exact ⟨ret_int (by unfold need; rw [if_neg (by omega)]; omega), rfl⟩



theorem head8_cells (n k s : Nat) : (#[.int .u8 ((n : Int) / 256 % 256), .int .u8 ((n : Int) % 256), .int .u8 ((k : Int) / 256 % 256), .int .u8 ((k : Int) % 256), .int .u8 ((s : Int) / 16777216 % 256), .int .u8 ((s : Int) / 65536 % 256), .int .u8 ((s : Int) / 256 % 256), .int .u8 ((s : Int) % 256)] : Array Value).toList = cellsU (head8 n k s) := by
  simp only [cellsU, head8, List.map_cons, List.map_nil, cellU, UInt8.toNat_ofNat']
  simp only [List.cons.injEq, Value.int.injEq, true_and, and_true]
  refine ⟨?_, ?_, ?_, ?_, ?_, ?_, ?_, ?_⟩ <;> omega
def LayPost (w : World) (l : Bs) (e : Ending) (w' : World) : Prop := ∃ v, e = .returned v ∧ OwnB w' w.heap.size v l ∧ Below w.heap.size w w'

set_option maxRecDepth 100000 in
set_option maxHeartbeats 1000000 in
theorem lay_any (l : Bs) (k : Nat) (b o c : Nat) (w : World) (h1 : 1 ≤ l.length) (h2 : l.length ≤ 1024) (hc : l.length ≤ c) (hcm : c ≤ maxLen) (hk : k ≤ 1000000) (h : ∀ k (hk : k < l.length), w.cell? ⟨b, o + k, none⟩ = some (.int .u8 (l[k].toNat : Int))) :
    Calls Try.prog 41 #[.slice (some ⟨b, o, none⟩) l.length c, .int .i64 k] w (LayPost w (laid l k)) := by
  have H := Lib.hid h
  clear h
  have hs := adler_lt l
  obtain ⟨S, hS⟩ : ∃ S, adler l = S := ⟨_, rfl⟩
  rw [hS] at hs
  have HS := Lib.hid hS
  obtain ⟨i0, hi, hz0, hz1, hz2⟩ := info_parts info_b
  go_enter Try.func41, Try.ntmps41
  go_wp2_with (first
    | (go_at_call 67; refine (sum_any l _ _ _ (by omega) (.inr ⟨b, o, rfl, H.out⟩)).mono ?_; rintro e w' ⟨rfl, rfl⟩; rw [hS]; clear hS)
    | (at_builtin; refine wpList_append_grows _ rfl _ _ 41 rfl 5 i0 (.int .u8 0) 1 1 und_B hi hz0 hz1 hz2 rfl (by decide) (some ⟨w'.heap.size, 0, none⟩) 8 8 (cellsU (head8 l.length k S)) rfl (fun h => by cases h) rfl ?hold ⟨b, o, none⟩ l.length c (cellsU l) rfl (by simp) ?hnew (cellsU_one l) (by omega) (by unfold maxLen; omega) (by omega) ?_))
  case hold =>
    intro b' hb'
    cases hb'
    refine cell_alloc_list ?_
    rw [← head8_cells]
    simp
    try omega
  case hnew =>
    intro j u hu
    have hj : j < l.length := by have := (List.getElem?_eq_some_iff.1 hu).1; simpa using this
    rw [cellsU_get l j hj] at hu
    cases hu
    rw [Addr.add_lit]
    exact (Below.cell (((Below.refl w'.heap.size w').alloc (Nat.le_refl _) _)) (World.block_lt_of_cell? _ _ (H.out j hj))).trans (H.out j hj)
  intro v' w2 hown hgr
  go_wp2
  have hb : Below w'.heap.size w' w2 := ((Below.refl w'.heap.size w').alloc (Nat.le_refl _) _).grown hgr (by simp) (fun k e => by cases e)
  have hw : OwnB w2 w'.heap.size v' (laid l k) := by
    have hown' := OwnB.mono hown (B' := w'.heap.size) (by simp)
    have hS' : adler l = S := HS.out
    simp only [OwnB, laid, hS', List.length_append, head8_length, cellsU_append] at hown' ⊢
    exact hown'
  have HW := Lib.hid hw; have HB := Lib.hid hb
  clear hw hb hown hgr
  go_ret
  exact ⟨v', rfl, HW.out, HB.out⟩



theorem RdAt.at {w : World} {a : Option Addr} {l : Bs} (h : RdAt w a l) (hl : 0 < l.length) : ∃ b o, a = some ⟨b, o, none⟩ ∧ ∀ k (hk : k < l.length), w.cell? ⟨b, o + k, none⟩ = some (.int .u8 (l[k].toNat : Int)) := by
  rcases h with h | h
  · rw [h] at hl; simp at hl
  · exact h
theorem RdAt.below {w w' : World} {a : Option Addr} {l : Bs} (h : RdAt w a l) (hb : Below w.heap.size w w') : RdAt w' a l := by
  rcases h with h | ⟨b, o, e, h⟩
  · exact .inl h
  · exact .inr ⟨b, o, e, fun k hk => (hb.cell (p := ⟨b, o + k, none⟩) (World.block_lt_of_cell? w _ (h k hk))).trans (h k hk)⟩

set_option maxRecDepth 100000 in
set_option maxHeartbeats 1000000 in
theorem equal_any (l m : Bs) (a a' : Option Addr) (c c' : Nat) (w : World) (hl : l.length ≤ 1000000) (hm : m.length ≤ 1000000) (h : RdAt w a l) (h' : RdAt w a' m) :
    Calls Try.prog 64 #[.slice a l.length c, .slice a' m.length c'] w fun e w' => e = .returned (.bool (decide (l = m))) ∧ Below w.heap.size w w' := by
  by_cases hlen : l.length = m.length
  rotate_left
  · have hx : ((l.length : Int) == (m.length : Int)) = false := by simp; omega
    have hx2 : ((l.length : Int) != (m.length : Int)) = true := by simp; omega
    have hr : decide (l = m) = false := by simp; intro h; exact hlen (by rw [h])
    have HR := Lib.hid hr
    clear h h' hr
    go_enter Try.func64, Try.ntmps64
    go_wp2
    go_ret
    exact ⟨ret_bool HR.out.symm, Below.refl _ _⟩
  have H := Lib.hid h
  have H' := Lib.hid h'
  have HL := Lib.hid hlen
  have hx : ((l.length : Int) == (m.length : Int)) = true := by simp; omega
  have hx2 : ((l.length : Int) != (m.length : Int)) = false := by simp; omega
  clear h h' hlen
  go_enter Try.func64, Try.ntmps64
  go_wp2
  go_loopw [13] (fun i wr => ∃ k : Nat, k ≤ l.length ∧ i = .int .i64 k ∧ Hid (l.take k = m.take k) ∧ Hid (Below w.heap.size w wr)) (fun i _ => l.length - (intOf i).toNat)
  case atStart => exact ⟨0, Nat.zero_le _, rfl, Lib.hid (by simp), Lib.hid (Below.refl _ _)⟩
  case round =>
    obtain ⟨k, hk, rfl, HT, HB⟩ := hrel
    by_cases hlt : k < l.length
    · have hkm : k < m.length := by have := HL.out; omega
      obtain ⟨b, o, rfl, hc⟩ := (H.out.below HB.out).at (by omega)
      obtain ⟨b', o', rfl, hc'⟩ := (H'.out.below HB.out).at (by omega)
      have c1 := hc k hlt
      have c2 := hc' k hkm
      clear hc hc'
      have u1 := l[k].toNat_lt
      have u2 := m[k].toNat_lt
      by_cases he : l[k] = m[k]
      · have e1 : ((l[k].toNat : Int) == (m[k].toNat : Int)) = true := by simp [he]
        have e2 : ((l[k].toNat : Int) != (m[k].toNat : Int)) = false := by simp [he]
        have ht : l.take (k + 1) = m.take (k + 1) := by rw [List.take_succ_eq_append_getElem hlt, List.take_succ_eq_append_getElem hkm, HT.out, he]
        have HT' := Lib.hid ht
        clear ht he HT
        go_wp2
        go_still (by kernel_rfl)
        go_wp2
        go_roundw
        case rel => exact ⟨k + 1, by omega, by go_num, HT', Lib.hid HB.out.drew⟩
        case measure => simp [intOf]; omega
      · have e1 : ((l[k].toNat : Int) == (m[k].toNat : Int)) = false := by simp; intro h; exact he (UInt8.toNat_inj.1 (by omega))
        have e2 : ((l[k].toNat : Int) != (m[k].toNat : Int)) = true := by simp; intro h; exact he (UInt8.toNat_inj.1 (by omega))
        have hr : decide (l = m) = false := by simp; intro h; subst h; exact he rfl
        have HR := Lib.hid hr
        clear hr he HT
        go_wp2
        go_still (by kernel_rfl)
        go_wp2
        go_ret
        exact ⟨ret_bool HR.out.symm, HB.out.drew⟩
    · obtain rfl : k = l.length := by omega
      have hr : decide (l = m) = true := by
        have := HT.out
        rw [List.take_length, HL.out, List.take_length] at this
        simp [this]
      have HR := Lib.hid hr
      clear hr HT
      go_wp2
      go_ret
      exact ⟨ret_bool HR.out.symm, HB.out⟩

theorem allZ_take (l : Bs) (k : Nat) (h : k < l.length) (ht : allZ (l.take k) = true) (hz : l[k] = 0) : allZ (l.take (k + 1)) = true := by
  unfold allZ at *
  rw [List.take_succ_eq_append_getElem h, List.all_append, ht]; simp [hz]
theorem allZ_bad (l : Bs) (k : Nat) (h : k < l.length) (hz : l[k] ≠ 0) : allZ l = false := by
  unfold allZ
  rw [List.all_eq_false]
  exact ⟨l[k], List.getElem_mem h, by simpa using hz⟩

def IdxPost (l : Bs) (w : World) (e : Ending) (w' : World) : Prop := ∃ r : Int, -1 ≤ r ∧ r ≤ l.length ∧ (r < 0 ↔ allZ l = true) ∧ e = .returned (.int .i64 r) ∧ w' = w

set_option maxRecDepth 100000 in
set_option maxHeartbeats 1000000 in
theorem idx_any (l : Bs) (a : Option Addr) (c : Nat) (w : World) (hl : l.length ≤ 1000000) (h : RdAt w a l) :
    Calls Try.prog 65 #[.slice a l.length c, .func (.func 66) #[] #[]] w (IdxPost l w) := by
  have H := Lib.hid h
  clear h
  go_enter Try.func65, Try.ntmps65
  go_wp2
  go_loop [8] (fun i => ∃ k : Nat, k ≤ l.length ∧ i = .int .i64 k ∧ Hid (allZ (l.take k) = true)) (fun i => l.length - (intOf i).toNat)
  case atStart => exact ⟨0, Nat.zero_le _, rfl, Lib.hid rfl⟩
  case round =>
    obtain ⟨k, hk, rfl, HT⟩ := hrel
    by_cases hlt : k < l.length
    · obtain ⟨b, o, rfl, hc⟩ := H.out.at (by omega)
      have c1 := hc k hlt
      clear hc
      have u1 := l[k].toNat_lt
      by_cases he : l[k] = 0
      · have e1 : ((l[k].toNat : Int) == 0) = true := by simp [he]
        have e2 : ((l[k].toNat : Int) != 0) = false := by simp [he]
        have HT' := Lib.hid (allZ_take l k hlt HT.out he)
        clear he HT
        go_wp2
        go_round
        case rel => exact ⟨k + 1, by omega, by go_num, HT'⟩
        case measure => simp [intOf]; omega
      · have e1 : ((l[k].toNat : Int) == 0) = false := by simp; intro h; exact he (UInt8.toNat_inj.1 (by simpa using h))
        have e2 : ((l[k].toNat : Int) != 0) = true := by simp; intro h; exact he (UInt8.toNat_inj.1 (by simpa using h))
        have HR := Lib.hid (allZ_bad l k hlt he)
        clear he HT
        go_wp2
        go_ret
        exact ⟨k, by omega, by omega, by rw [HR.out]; simp, rfl, rfl⟩
    · obtain rfl : k = l.length := by omega
      have hr := HT.out
      rw [List.take_length] at hr
      have HR := Lib.hid hr
      clear hr HT
      go_wp2
      go_ret
      exact ⟨-1, by omega, by omega, by rw [HR.out]; simp, rfl, rfl⟩

end Go.Proofs.Ytobpohjhhelljaa
