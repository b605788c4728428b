/- Layer 5 (blocks): BlocksForks: the walk. -/
import Derived.Test.YtmkfiecdgghceaaD6
namespace Go.Proofs.Ytmkfiecdgghceaa
open Go.RowKit
set_option linter.unusedVariables false
set_option linter.unusedSimpArgs false

/-- a log of old is as it was, behind deeds on new memory -/
theorem Sim.keptB {w w' : World} {B p q n : Nat} {bs : Bs} {last most : Nat} (h : Sim w B p q n bs last most) {B' : Nat} (hB : w.heap.size ≤ B') {w0 : World} (h0 : Below w.heap.size w w0) (hk : Keeps (fun i => B' ≤ i) w0 w') : Sim w' B p q n bs last most := by
  refine h.below (h0.trans ⟨hk.os, hk.tape, hk.output, hk.size, fun i hi => hk.block i (Nat.lt_of_lt_of_le hi h0.size) (by omega)⟩)
theorem ArgD.mono {w : World} {B B' : Nat} {x : Value} {n : Nat} (h : ArgD w B x n) (hB : B ≤ B') : ArgD w B' x n := by
  obtain ⟨ao, c, e, h1, h2, h3⟩ := h
  refine ⟨ao, c, e, h1, h2, fun h0 => ?_⟩
  obtain ⟨a, ea, hb, h4⟩ := h3 h0
  refine ⟨a, ea, by omega, fun j hj => ?_⟩
  obtain ⟨kind, keep, torn, y, l, h5, h6, h7⟩ := h4 j hj
  exact ⟨kind, keep, torn, y, l, h5, h6, h7.mono hB⟩

/-- bytes that may be written -/
def ZCells (w : World) (B : Nat) (a : Option Addr) (N : Nat) : Prop := 0 < N → ∃ g cur, a = some ⟨g, 0, none⟩ ∧ B ≤ g ∧ w.heap[g]? = some (.cells cur 5 (0, 0)) ∧ ∀ i, i < N → ∃ z : Int, cur[i]? = some (.int .u8 z)
theorem zcells_of {w : World} {B : Nat} {a : Option Addr} {c : Nat} {l : Bs} (h : OwnB w B (.slice a l.length c) l) : ZCells w B a l.length := by
  intro h0
  obtain ⟨_, ⟨_, hx⟩ | ⟨g, cap, cur, hv, hb, hg, hc, _, hs, ht⟩⟩ := h
  · omega
  · simp only [Value.slice.injEq] at hv
    refine ⟨g, cur, hv.1, hb, hg, fun i hi => ?_⟩
    have h1 : (cellsU l)[i]? = some (.int .u8 (l[i].toNat : Int)) := cellsU_get l i hi
    rw [← ht, List.getElem?_take_of_lt (by omega), Array.getElem?_toList] at h1
    exact ⟨_, h1⟩
theorem zcap {w : World} {B : Nat} {a : Option Addr} {c : Nat} {l : Bs} (h : OwnB w B (.slice a l.length c) l) : l.length ≤ c ∧ c ≤ 9223372036854775807 := by
  obtain ⟨_, ⟨hv, hx⟩ | ⟨g, cap, cur, hv, hb, hg, hc, hm, hs, ht⟩⟩ := h
  · simp only [Value.slice.injEq] at hv
    omega
  · simp only [Value.slice.injEq] at hv
    unfold maxLen at hm
    omega
theorem zcells_set {w : World} {B g N : Nat} {cur : Array Value} (hg : w.heap[g]? = some (.cells cur 5 (0, 0))) (hB : B ≤ g) (hc : ∀ i, i < N → ∃ z : Int, cur[i]? = some (.int .u8 z)) (j : Nat) :
    ZCells (w.setCell ⟨g, j, none⟩ (.int .u8 0)) B (some ⟨g, 0, none⟩) N := by
  intro _
  refine ⟨g, _, rfl, hB, heap_setCell_same hg, fun i hi => ?_⟩
  obtain ⟨z, hz⟩ := hc i hi
  by_cases hij : j = i
  · subst hij
    have hlt := (Array.getElem?_eq_some_iff.1 hz).1
    exact ⟨0, by rw [Array.getElem?_setIfInBounds_self_of_lt hlt]⟩
  · exact ⟨z, by rw [Array.getElem?_setIfInBounds_ne hij]; exact hz⟩

set_option maxRecDepth 100000 in
set_option maxHeartbeats 4000000 in
theorem forks_walk (x y : Value) (n m : Nat) (w : World) (h : ArgD w w.heap.size x n) (hy : ArgD w w.heap.size y m) :
    Calls Try.prog 9 #[x, y] w fun e w' => e = .returned (.bool true) ∧ Below w.heap.size w w' := by
  have H := play_any 20 (by omega) (by omega) x n w h
  obtain ⟨ao, c, rfl, _⟩ := h
  obtain ⟨ay, cy, rfl, hc1, hc2, hsl⟩ := id hy
  unfold maxLen at hc2
  have hlen : m ≤ 9223372036854775807 := by omega
  clear hsl
  have HY := Lib.hid hy
  clear hy
  rw [show ((20 : Int).tmod 24 + 1).toNat = 21 by decide] at H
  go_enter Try.func9, Try.ntmps9
  go_wp2_with (first | (go_at_call 22; refine H.mono ?_; clear H; rintro e w1 ⟨p, q, k, bs, last, rfl, hb, hs⟩; have HB := Lib.hid hb; have HS := Lib.hid hs; clear hb hs) | (go_at_call 11; refine (live_any _).mono ?_; rintro e w2 ⟨rfl, hb⟩; have HB := Lib.hid (HB.out.trans (hb.mono HB.out.size)); have HS := Lib.hid (HS.out.below hb); clear hb; obtain ⟨v, u, hL, hR⟩ := HS.out; have HL := Lib.hid hL; have HR := Lib.hid hR; clear hL hR) | (go_at_call 28; refine (fork_any w2 _ _ _ _ _ _ _ HL.out).mono ?_; rintro e w3 ⟨pf, uf, rfl, hf, hb⟩; have HF := Lib.hid hf; have HR := Lib.hid (HR.out.below hb); have HB3 := Lib.hid hb; clear hf hb) | (go_at_call 29; refine (forkR_any w3 _ _ _ _ _ _ HR.out).mono ?_; rintro e w4 ⟨qf, vf, rfl, hf, hb⟩; have HSF := Lib.hid (show ∃ k bs last, Sim w4 w2.heap.size pf qf k bs last 21 from ⟨_, _, _, _, _, HF.out.below hb, ⟨hf.cells, ownsRow_mono hf.row HB3.out.size, Nat.le_trans HB3.out.size hf.base, hf.hl, hf.hn, hf.hm⟩⟩); have HB4 := Lib.hid (HB3.out.trans (hb.mono HB3.out.size)); clear hf hb))
  have hb2 : w.heap.size ≤ w2.heap.size := HB.out.size
  have HY2 := Lib.hid ((HY.out.kept (Keeps.of_below' (F := fun i => w.heap.size ≤ i) (HB.out.trans (HB4.out.mono hb2))) (Nat.le_refl _)).mono hb2)
  go_loopw [10] (fun i wr => ∃ j : Nat, j ≤ 20 ∧ j ≤ m ∧ i = .int .i64 j ∧ Hid (∃ k bs last, Sim wr w2.heap.size pf qf k bs last 21) ∧ Hid (Keeps (fun i => w2.heap.size ≤ i) w4 wr)) (fun i _ => 20 - (intOf i).toNat)
  case atStart => exact ⟨0, by omega, by omega, rfl, HSF, Lib.hid (Keeps.refl _ _)⟩
  case round =>
    obtain ⟨j, hj, hjd, rfl, hS, hK⟩ := hrel
    by_cases hlt : j < m ∧ j < 20
    · obtain ⟨hl1, hl2⟩ := hlt
      have hyr := HY2.out.kept hK.out (Nat.le_trans HB4.out.size (Nat.le_refl _))
      obtain ⟨ay', cy', hv, _, _, hcell⟩ := hyr
      simp only [Value.slice.injEq, true_and] at hv
      obtain ⟨rfl, rfl⟩ := hv
      obtain ⟨a, rfl, hab, hcell⟩ := hcell (by omega)
      obtain ⟨kind, keep, torn, y, l, hc, hkeep, hy⟩ := hcell j hl1
      have hl1' : (j : Int) < m := by omega
      have hl2' : (j : Int) < 20 := by omega
      generalize ha : a.add (j * 4) = A at *
      have x0 := hc 0 (by omega)
      have x1 := hc 1 (by omega)
      have x2 := hc 2 (by omega)
      have x3 := hc 3 (by omega)
      simp [Addr.add] at x0 x1 x2 x3
      subst ha
      have HYL := Lib.hid hy
      clear hcell hc hab hy
      go_wp2_with fail
      have hyl : l.length ≤ 9223372036854775807 := by
        obtain ⟨_, _, _, h1, h2⟩ := HYL.out.lv
        unfold maxLen at h2
        omega
      refine (do_any wr w2.heap.size pf qf 21 hS.out kind keep torn y l HYL.out hyl hkeep).mono ?_
      rintro e w5 ⟨rfl, hs5, hk5⟩
      have HS5 := Lib.hid hs5
      have HK5 := Lib.hid (hK.out.trans hk5)
      clear hs5 hk5 x0 x1 x2 x3
      go_wp2
      go_roundw
      case rel => exact ⟨j + 1, by omega, by omega, by simp, HS5, HK5⟩
      case measure => simp [intOf]; omega
    · have hS' := hS.out
      obtain ⟨kf, bsf, lastf, hsim⟩ := hS'
      have HSF2 := Lib.hid hsim
      have HS6 := Lib.hid (HS.out.keptB (Nat.le_refl _) HB4.out hK.out)
      have HB6 := Lib.hid (show Below w.heap.size w wr from (HB.out.trans (HB4.out.mono hb2)).trans ⟨hK.out.os, hK.out.tape, hK.out.output, hK.out.size, fun i hi => hK.out.block i (Nat.lt_of_lt_of_le hi (Nat.le_trans hb2 HB4.out.size)) (by omega)⟩)
      clear hS hsim hK HSF HL HR HF HB3
      by_cases hl1 : j < m
      · have hl1' : (j : Int) < m := by omega
        have hl2' : ¬ (j : Int) < 20 := by omega
        clear HY HY2
        go_wp2_with fail
        obtain ⟨v6, u6, hL6, hR6⟩ := HS6.out
        refine (bytes_any wr _ _ _ _ _ _ _ hL6).mono ?_
        rintro e w7 ⟨u7, rfl, ho, hb7⟩
        have HB7 := Lib.hid hb7
        have hbl : bs.length ≤ 262144 := by
          have h1 := hL6.row.1
          have h2 := hL6.hn
          have h3 := hL6.hm
          omega
        obtain ⟨a7, c7, rfl⟩ := ho.lv
        have HC7 := Lib.hid (zcells_of ho)
        obtain ⟨hlc7, hcm7⟩ : bs.length ≤ c7 ∧ c7 ≤ 9223372036854775807 := zcap ho
        clear hL6 hR6 ho hb7
        generalize bs.length = N at *
        go_wp2_with fail
        go_loopw [12] (fun i wq => ∃ j : Nat, j ≤ N ∧ i = .int .i64 j ∧ Hid (Below wr.heap.size wr wq) ∧ Hid (ZCells wq wr.heap.size a7 N)) (fun i _ => N - (intOf i).toNat)
        case atStart => exact ⟨0, by omega, rfl, HB7, HC7⟩
        case round =>
          obtain ⟨j2, hj2, rfl, hbq, hcq⟩ := hrel
          by_cases hlt2 : j2 < N
          · have hl3' : (j2 : Int) < N := by omega
            obtain ⟨g, cur, rfl, hgB, hg, hcs⟩ := hcq.out (by omega)
            obtain ⟨z, hz⟩ := hcs j2 hlt2
            obtain ⟨y0, y1⟩ := cells_of_block hg j2 _ hz
            have HG := Lib.hid (zcells_set hg hgB hcs j2)
            have HBQ := Lib.hid (hbq.out.setCell (p := ⟨g, j2, none⟩) hgB (.int .u8 0))
            clear hg hcs hz hbq hcq HC7
            go_wp2
            go_roundw
            case rel => exact ⟨j2 + 1, by omega, by simp, HBQ, HG⟩
            case measure => simp [intOf]; omega
          · have hl3' : ¬ (j2 : Int) < N := by omega
            have HS8 := Lib.hid (HS6.out.below hbq.out)
            have HF8 := Lib.hid (HSF2.out.below hbq.out)
            have HB8 := Lib.hid (HB6.out.trans (hbq.out.mono HB6.out.size))
            clear hbq hcq HC7 HS6 HSF2 HB6 HB7
            go_wp2_with fail
            refine (same_sim _ w.heap.size p q 21 ⟨_, _, _, HS8.out⟩).mono ?_
            rintro e w9 ⟨rfl, hb9⟩
            have HB9 := Lib.hid (HB8.out.trans (hb9.mono HB8.out.size))
            have HF9 := Lib.hid (HF8.out.below hb9)
            clear hb9 HS8 HF8 HB8
            go_wp2_with fail
            refine (same_sim w9 w2.heap.size pf qf 21 ⟨_, _, _, HF9.out⟩).mono ?_
            rintro e w10 ⟨rfl, hb10⟩
            have HB10 := Lib.hid (HB9.out.trans (hb10.mono HB9.out.size))
            clear hb10
            go_wp2
            go_ret
            exact ⟨rfl, HB10.out⟩
      · have hl1' : ¬ (j : Int) < m := by omega
        clear HY HY2
        go_wp2_with fail
        obtain ⟨v6, u6, hL6, hR6⟩ := HS6.out
        refine (bytes_any wr _ _ _ _ _ _ _ hL6).mono ?_
        rintro e w7 ⟨u7, rfl, ho, hb7⟩
        have HB7 := Lib.hid hb7
        have hbl : bs.length ≤ 262144 := by
          have h1 := hL6.row.1
          have h2 := hL6.hn
          have h3 := hL6.hm
          omega
        obtain ⟨a7, c7, rfl⟩ := ho.lv
        have HC7 := Lib.hid (zcells_of ho)
        obtain ⟨hlc7, hcm7⟩ : bs.length ≤ c7 ∧ c7 ≤ 9223372036854775807 := zcap ho
        clear hL6 hR6 ho hb7
        generalize bs.length = N at *
        go_wp2_with fail
        go_loopw [12] (fun i wq => ∃ j : Nat, j ≤ N ∧ i = .int .i64 j ∧ Hid (Below wr.heap.size wr wq) ∧ Hid (ZCells wq wr.heap.size a7 N)) (fun i _ => N - (intOf i).toNat)
        case atStart => exact ⟨0, by omega, rfl, HB7, HC7⟩
        case round =>
          obtain ⟨j2, hj2, rfl, hbq, hcq⟩ := hrel
          by_cases hlt2 : j2 < N
          · have hl3' : (j2 : Int) < N := by omega
            obtain ⟨g, cur, rfl, hgB, hg, hcs⟩ := hcq.out (by omega)
            obtain ⟨z, hz⟩ := hcs j2 hlt2
            obtain ⟨y0, y1⟩ := cells_of_block hg j2 _ hz
            have HG := Lib.hid (zcells_set hg hgB hcs j2)
            have HBQ := Lib.hid (hbq.out.setCell (p := ⟨g, j2, none⟩) hgB (.int .u8 0))
            clear hg hcs hz hbq hcq HC7
            go_wp2
            go_roundw
            case rel => exact ⟨j2 + 1, by omega, by simp, HBQ, HG⟩
            case measure => simp [intOf]; omega
          · have hl3' : ¬ (j2 : Int) < N := by omega
            have HS8 := Lib.hid (HS6.out.below hbq.out)
            have HF8 := Lib.hid (HSF2.out.below hbq.out)
            have HB8 := Lib.hid (HB6.out.trans (hbq.out.mono HB6.out.size))
            clear hbq hcq HC7 HS6 HSF2 HB6 HB7
            go_wp2_with fail
            refine (same_sim _ w.heap.size p q 21 ⟨_, _, _, HS8.out⟩).mono ?_
            rintro e w9 ⟨rfl, hb9⟩
            have HB9 := Lib.hid (HB8.out.trans (hb9.mono HB8.out.size))
            have HF9 := Lib.hid (HF8.out.below hb9)
            clear hb9 HS8 HF8 HB8
            go_wp2_with fail
            refine (same_sim w9 w2.heap.size pf qf 21 ⟨_, _, _, HF9.out⟩).mono ?_
            rintro e w10 ⟨rfl, hb10⟩
            have HB10 := Lib.hid (HB9.out.trans (hb10.mono HB9.out.size))
            clear hb10
            go_wp2
            go_ret
            exact ⟨rfl, HB10.out⟩

end Go.Proofs.Ytmkfiecdgghceaa
