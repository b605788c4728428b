/- Layer 5 (blocks): rows of bytes held against each other; copies. -/
import Derived.Test.YtmkfiecdgghceaaB2
import Derived.Test.YtmkfiecdgghceaaReg
import Derived.LoopTactic
namespace Go.Proofs.Ytmkfiecdgghceaa
open Go.RowKit
set_option linter.unusedVariables false
set_option linter.unusedSimpArgs false

theorem RdAt.at {w : World} {a : Option Addr} {l : Bs} (h : RdAt w a l) (hl : 0 < l.length) : ∃ b o, a = some ⟨b, o, none⟩ ∧ ∀ k (hk : k < l.length), w.cell? ⟨b, o + k, none⟩ = some (.int .u8 (l[k].toNat : Int)) := by
  rcases h with h | h
  · rw [h] at hl; simp at hl
  · exact h
theorem RdAt.below {w w' : World} {a : Option Addr} {l : Bs} (h : RdAt w a l) (hb : Below w.heap.size w w') : RdAt w' a l := by
  rcases h with h | ⟨b, o, e, h⟩
  · exact .inl h
  · exact .inr ⟨b, o, e, fun k hk => (hb.cell (p := ⟨b, o + k, none⟩) (World.block_lt_of_cell? w _ (h k hk))).trans (h k hk)⟩

set_option maxRecDepth 100000 in
set_option maxHeartbeats 1000000 in
theorem equal_any (l m : Bs) (a a' : Option Addr) (c c' : Nat) (w : World) (hl : l.length ≤ 1000000) (hm : m.length ≤ 1000000) (h : RdAt w a l) (h' : RdAt w a' m) :
    Calls Try.prog 44 #[.slice a l.length c, .slice a' m.length c'] w fun e w' => e = .returned (.bool (decide (l = m))) ∧ Below w.heap.size w w' := by
  by_cases hlen : l.length = m.length
  rotate_left
  · have hx : ((l.length : Int) == (m.length : Int)) = false := by simp; omega
    have hx2 : ((l.length : Int) != (m.length : Int)) = true := by simp; omega
    have hr : decide (l = m) = false := by simp; intro h; exact hlen (by rw [h])
    have HR := Lib.hid hr
    clear h h' hr
    go_enter Try.func44, Try.ntmps44
    go_wp2
    go_ret
    exact ⟨ret_bool HR.out.symm, Below.refl _ _⟩
  have H := Lib.hid h
  have H' := Lib.hid h'
  have HL := Lib.hid hlen
  have hx : ((l.length : Int) == (m.length : Int)) = true := by simp; omega
  have hx2 : ((l.length : Int) != (m.length : Int)) = false := by simp; omega
  clear h h' hlen
  go_enter Try.func44, Try.ntmps44
  go_wp2
  go_loopw [13] (fun i wr => ∃ k : Nat, k ≤ l.length ∧ i = .int .i64 k ∧ Hid (l.take k = m.take k) ∧ Hid (Below w.heap.size w wr)) (fun i _ => l.length - (intOf i).toNat)
  case atStart => exact ⟨0, Nat.zero_le _, rfl, Lib.hid (by simp), Lib.hid (Below.refl _ _)⟩
  case round =>
    obtain ⟨k, hk, rfl, HT, HB⟩ := hrel
    by_cases hlt : k < l.length
    · have hkm : k < m.length := by have := HL.out; omega
      obtain ⟨b, o, rfl, hc⟩ := (H.out.below HB.out).at (by omega)
      obtain ⟨b', o', rfl, hc'⟩ := (H'.out.below HB.out).at (by omega)
      have c1 := hc k hlt
      have c2 := hc' k hkm
      clear hc hc'
      have u1 := l[k].toNat_lt
      have u2 := m[k].toNat_lt
      by_cases he : l[k] = m[k]
      · have e1 : ((l[k].toNat : Int) == (m[k].toNat : Int)) = true := by simp [he]
        have e2 : ((l[k].toNat : Int) != (m[k].toNat : Int)) = false := by simp [he]
        have ht : l.take (k + 1) = m.take (k + 1) := by rw [List.take_succ_eq_append_getElem hlt, List.take_succ_eq_append_getElem hkm, HT.out, he]
        have HT' := Lib.hid ht
        clear ht he HT
        go_wp2
        go_still (by kernel_rfl)
        go_wp2
        go_roundw
        case rel => exact ⟨k + 1, by omega, by go_num, HT', Lib.hid HB.out.drew⟩
        case measure => simp [intOf]; omega
      · have e1 : ((l[k].toNat : Int) == (m[k].toNat : Int)) = false := by simp; intro h; exact he (UInt8.toNat_inj.1 (by omega))
        have e2 : ((l[k].toNat : Int) != (m[k].toNat : Int)) = true := by simp; intro h; exact he (UInt8.toNat_inj.1 (by omega))
        have hr : decide (l = m) = false := by simp; intro h; subst h; exact he rfl
        have HR := Lib.hid hr
        clear hr he HT
        go_wp2
        go_still (by kernel_rfl)
        go_wp2
        go_ret
        exact ⟨ret_bool HR.out.symm, HB.out.drew⟩
    · obtain rfl : k = l.length := by omega
      have hr : decide (l = m) = true := by
        have := HT.out
        rw [List.take_length, HL.out, List.take_length] at this
        simp [this]
      have HR := Lib.hid hr
      clear hr HT
      go_wp2
      go_ret
      exact ⟨ret_bool HR.out.symm, HB.out⟩

theorem allZ_take (l : Bs) (k : Nat) (h : k < l.length) (ht : allZ (l.take k) = true) (hz : l[k] = 0) : allZ (l.take (k + 1)) = true := by
  unfold allZ at *
  rw [List.take_succ_eq_append_getElem h, List.all_append, ht]; simp [hz]
theorem allZ_bad (l : Bs) (k : Nat) (h : k < l.length) (hz : l[k] ≠ 0) : allZ l = false := by
  unfold allZ
  rw [List.all_eq_false]
  exact ⟨l[k], List.getElem_mem h, by simpa using hz⟩

def IdxPost (l : Bs) (w : World) (e : Ending) (w' : World) : Prop := ∃ r : Int, -1 ≤ r ∧ r ≤ l.length ∧ (r < 0 ↔ allZ l = true) ∧ e = .returned (.int .i64 r) ∧ w' = w

set_option maxRecDepth 100000 in
set_option maxHeartbeats 1000000 in
theorem idx_any (l : Bs) (a : Option Addr) (c : Nat) (w : World) (hl : l.length ≤ 1000000) (h : RdAt w a l) :
    Calls Try.prog 45 #[.slice a l.length c, .func (.func 46) #[] #[]] w (IdxPost l w) := by
  have H := Lib.hid h
  clear h
  go_enter Try.func45, Try.ntmps45
  go_wp2
  go_loop [8] (fun i => ∃ k : Nat, k ≤ l.length ∧ i = .int .i64 k ∧ Hid (allZ (l.take k) = true)) (fun i => l.length - (intOf i).toNat)
  case atStart => exact ⟨0, Nat.zero_le _, rfl, Lib.hid rfl⟩
  case round =>
    obtain ⟨k, hk, rfl, HT⟩ := hrel
    by_cases hlt : k < l.length
    · obtain ⟨b, o, rfl, hc⟩ := H.out.at (by omega)
      have c1 := hc k hlt
      clear hc
      have u1 := l[k].toNat_lt
      by_cases he : l[k] = 0
      · have e1 : ((l[k].toNat : Int) == 0) = true := by simp [he]
        have e2 : ((l[k].toNat : Int) != 0) = false := by simp [he]
        have HT' := Lib.hid (allZ_take l k hlt HT.out he)
        clear he HT
        go_wp2
        go_round
        case rel => exact ⟨k + 1, by omega, by go_num, HT'⟩
        case measure => simp [intOf]; omega
      · have e1 : ((l[k].toNat : Int) == 0) = false := by simp; intro h; exact he (UInt8.toNat_inj.1 (by simpa using h))
        have e2 : ((l[k].toNat : Int) != 0) = true := by simp; intro h; exact he (UInt8.toNat_inj.1 (by simpa using h))
        have HR := Lib.hid (allZ_bad l k hlt he)
        clear he HT
        go_wp2
        go_ret
        exact ⟨k, by omega, by omega, by rw [HR.out]; simp, rfl, rfl⟩
    · obtain rfl : k = l.length := by omega
      have hr := HT.out
      rw [List.take_length] at hr
      have HR := Lib.hid hr
      clear hr HT
      go_wp2
      go_ret
      exact ⟨-1, by omega, by omega, by rw [HR.out]; simp, rfl, rfl⟩

end Go.Proofs.Ytmkfiecdgghceaa
