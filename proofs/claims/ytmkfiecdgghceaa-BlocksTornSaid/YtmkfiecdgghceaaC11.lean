/- Layer 5 (blocks): deeds played on both logs. -/
import Derived.Test.YtmkfiecdgghceaaC9
import Derived.Test.YtmkfiecdgghceaaC10
namespace Go.Proofs.Ytmkfiecdgghceaa
open Go.RowKit
set_option linter.unusedVariables false
set_option linter.unusedSimpArgs false

/-- deeds of an argument: they lie below block B -/
def ArgD (w : World) (B : Nat) (x : Value) (n : Nat) : Prop := ∃ ao c, x = .slice ao n c ∧ n ≤ c ∧ c ≤ maxLen ∧ (0 < n → ∃ a : Addr, ao = some a ∧ a.block < B ∧ ∀ j, j < n → ∃ (kind keep torn : Int) (y : Value) (l : Bs), (∀ o, o < 4 → w.cell? ((a.add (j * 4)).add o) = (#[.int .i64 kind, .int .i64 keep, .int .i64 torn, y] : Array Value)[o]?) ∧ keep ≤ 9223372036854775807 ∧ ArgB w B y l)
theorem add_block (a : Addr) (i : Nat) : (a.add i).block = a.block := by unfold Addr.add; split <;> rfl
theorem ArgD.kept {w w' : World} {B : Nat} {x : Value} {n : Nat} (h : ArgD w B x n) (hk : Keeps (fun i => B ≤ i) w w') (hB : B ≤ w.heap.size) : ArgD w' B x n := by
  obtain ⟨ao, c, e, h1, h2, h3⟩ := h
  refine ⟨ao, c, e, h1, h2, fun h0 => ?_⟩
  obtain ⟨a, ea, hb, h4⟩ := h3 h0
  refine ⟨a, ea, hb, fun j hj => ?_⟩
  obtain ⟨kind, keep, torn, y, l, h5, h6, h7⟩ := h4 j hj
  exact ⟨kind, keep, torn, y, l, fun o ho => (World.cell?_of_block (by rw [add_block, add_block]; exact hk.block a.block (by omega) (by omega))).trans (h5 o ho), h6, h7.kept hk⟩

def PlayPost (w : World) (most : Nat) (e : Ending) (w' : World) : Prop := ∃ p q n bs last, e = .returned (.tuple #[.pointer (some ⟨p, 0, none⟩), .pointer (some ⟨q, 0, none⟩), .bool true]) ∧ Below w.heap.size w w' ∧ Sim w' w.heap.size p q n bs last most

set_option maxRecDepth 100000 in
set_option maxHeartbeats 4000000 in
theorem play_any (k : Int) (h0 : 0 ≤ k) (h1 : k ≤ 255) (x : Value) (n : Nat) (w : World) (h : ArgD w w.heap.size x n) :
    Calls Try.prog 22 #[.int .u8 k, x] w (PlayPost w (k.tmod 24 + 1).toNat) := by
  obtain ⟨ao, cap, rfl, hc1, hc2, hsl⟩ := h
  have HSL := Lib.hid hsl
  unfold maxLen at hc2
  have hlen : n ≤ 9223372036854775807 := by omega
  have hq0 : k.tmod 24 = k % 24 := Int.tmod_eq_emod_of_nonneg h0
  rw [hq0]
  have hq1 : 0 ≤ k % 24 := by omega
  have hq2 : k % 24 < 24 := by omega
  clear hsl
  go_enter Try.func22, Try.ntmps22
  go_wp2_with fail
  refine (new_any (k % 24 + 1) w (by omega) (by omega)).mono ?_
  rintro e w1 ⟨p, rfl, hl, hb⟩
  have HL := Lib.hid hl
  have HB := Lib.hid hb
  clear hl hb
  go_wp2_with fail
  refine (newR_any (k % 24 + 1) w1 (by omega) (by omega)).mono ?_
  rintro e w2 ⟨q, rfl, hr, hb⟩
  generalize hM : (k % 24 + 1).toNat = M at *
  have HS := Lib.hid (show ∃ m bs last, Sim w2 w.heap.size p q m bs last M from ⟨0, [], 0, _, _, HL.out.below hb, ⟨hr.cells, World.ownsRow_nil _ _ _ _, Nat.le_trans HB.out.size hr.base, hr.hl, hr.hn, hr.hm⟩⟩)
  have HB2 := Lib.hid (HB.out.trans (hb.mono HB.out.size))
  clear hr hb HL HB
  go_wp2_with fail
  go_loopw [9] (fun i wr => ∃ j : Nat, j ≤ 40 ∧ j ≤ n ∧ i = .int .i64 j ∧ Hid (∃ m bs last, Sim wr w.heap.size p q m bs last M) ∧ Hid (Below w.heap.size w wr)) (fun i _ => 40 - (intOf i).toNat)
  case atStart => exact ⟨0, by omega, by omega, rfl, HS, HB2⟩
  case round =>
    obtain ⟨j, hj, hjd, rfl, hS, hB⟩ := hrel
    by_cases hlt : j < n ∧ j < 40
    · obtain ⟨hl1, hl2⟩ := hlt
      obtain ⟨a, rfl, hab, hcell⟩ := HSL.out (by omega)
      obtain ⟨kind, keep, torn, y, l, hc, hkeep, hy⟩ := hcell j hl1
      have hl1' : (j : Int) < n := by omega
      have hl2' : (j : Int) < 40 := by omega
      have hab2 : (a.add (j * 4)).block < w.heap.size := by rw [add_block]; exact hab
      generalize ha : a.add (j * 4) = A at *
      have hcell' := fun o ho => (hB.out.cell (p := A.add o) (by rw [add_block]; exact hab2)).trans (hc o ho)
      have x0 := hcell' 0 (by omega)
      have x1 := hcell' 1 (by omega)
      have x2 := hcell' 2 (by omega)
      have x3 := hcell' 3 (by omega)
      simp [Addr.add] at x0 x1 x2 x3
      subst ha
      have HY := Lib.hid (hy.kept (Keeps.of_below' (F := fun i => w.heap.size ≤ i) hB.out))
      clear hcell' hcell hc hab hy hab2 HSL
      go_wp2_with fail
      have hyl : l.length ≤ 9223372036854775807 := by
        obtain ⟨_, _, _, h1, h2⟩ := HY.out.lv
        unfold maxLen at h2
        omega
      refine (do_any wr w.heap.size p q M hS.out kind keep torn y l HY.out hyl hkeep).mono ?_
      rintro e w5 ⟨rfl, hs5, hk5⟩
      have HS5 := Lib.hid hs5
      have HB5 := Lib.hid (show Below w.heap.size w w5 from hB.out.trans ⟨hk5.os, hk5.tape, hk5.output, hk5.size, fun i hi => hk5.block i (Nat.lt_of_lt_of_le hi hB.out.size) (by omega)⟩)
      clear hs5 hk5 x0 x1 x2 x3
      go_wp2
      go_roundw
      case rel => exact ⟨j + 1, by omega, by omega, by simp, HS5, HB5⟩
      case measure => simp [intOf]; omega
    · have hS' := hS.out
      obtain ⟨m, bs, last, hsim⟩ := hS'
      have HSIM := Lib.hid hsim
      clear hS hsim
      by_cases hl1 : j < n
      · have hl1' : (j : Int) < n := by omega
        have hl2' : ¬ (j : Int) < 40 := by omega
        clear HSL
        go_wp2
        refine bodyPost_ret (v := .tuple #[.pointer (some ⟨p, 0, none⟩), .pointer (some ⟨q, 0, none⟩), .bool true]) (by simp [results, Try.results22, go_sem]) rfl ⟨p, q, m, bs, last, rfl, hB.out, HSIM.out⟩
      · have hl1' : ¬ (j : Int) < n := by omega
        clear HSL
        go_wp2
        refine bodyPost_ret (v := .tuple #[.pointer (some ⟨p, 0, none⟩), .pointer (some ⟨q, 0, none⟩), .bool true]) (by simp [results, Try.results22, go_sem]) rfl ⟨p, q, m, bs, last, rfl, hB.out, HSIM.out⟩

end Go.Proofs.Ytmkfiecdgghceaa
