/- Layer 5 (blocks): the document's record. -/
import Derived.Test.YtmkfiecdgghceaaB4
import Derived.Test.YtmkfiecdgghceaaKeeps
import Derived.Laws.BytesString
namespace Go.Proofs.Ytmkfiecdgghceaa
open Go.RowKit
set_option linter.unusedVariables false
set_option linter.unusedSimpArgs false

theorem OwnB.lit {w : World} {B : Nat} (cs : Bs) (hB : B ≤ w.heap.size) (hm : cs.length ≤ 1000000) (arr : Array Value) (ha : arr.toList = cellsU cs) : OwnB (w.alloc (.cells arr 5)) B (.slice (some ⟨w.heap.size, 0, none⟩) cs.length cs.length) cs := by
  have h := World.ownsRow_lit (e := 5) (size := 1) w arr cs.length hB (by unfold maxLen; omega) (by rw [← Array.length_toList, ha]; simp)
  rw [ha] at h
  exact h

set_option maxRecDepth 100000 in
set_option maxHeartbeats 2000000 in
theorem record_any (l : Bs) (k : Nat) (ki : Int) (hki : ki = (k : Int)) (v : Value) (w : World) (h1 : 1 ≤ l.length) (h2 : l.length ≤ 1024) (hk : k ≤ 1000000) (h : IsB w v l) :
    Calls Try.prog 48 #[v, .int .i64 ki] w (LayPost w (recd l k)) := by
  subst hki
  obtain ⟨a, c, rfl, hrd⟩ := h.rd
  have H := Lib.hid h
  have HRd := Lib.hid hrd
  clear h hrd
  have hs := adler_lt l
  obtain ⟨S, hS⟩ : ∃ S, adler l = S := ⟨_, rfl⟩
  rw [hS] at hs
  have HS := Lib.hid hS
  have HN := Lib.hid (needN_of h1 h2)
  go_enter Try.func48, Try.ntmps48
  go_wp2_with (first
    | (go_at_call 13; refine (sumR_any l _ _ _ (by omega) HRd.out).mono ?_; rintro e w' ⟨rfl, hw⟩; obtain rfl := hw.symm; rw [hS]; clear hS)
    | (at_builtin; refine wpList_app_bytes rfl _ _ rfl w.heap.size (.slice (some ⟨w.heap.size, 0, none⟩) 8 8) (head8 l.length k S) rfl (OwnB.lit (head8 l.length k S) (Nat.le_refl _) (by simp) _ ?hd) _ l rfl (H.out.below ((Below.refl w.heap.size w).alloc (Nat.le_refl _) _)) (by simp; omega) (by simp) ?_))
  case hd =>
    rw [← head8_cells]
    simp
    try omega
  intro v2 w2 hown hgr
  have HO := Lib.hid (show OwnB w2 w.heap.size v2 (laid l k ++ List.replicate 0 0) by simpa [laid, HS.out] using hown)
  have HB := Lib.hid (((Below.refl w.heap.size w).alloc (Nat.le_refl _) _).grown hgr (by simp) (fun k e => by simp [Value.ownBlock] at e; omega))
  clear hown hgr
  go_wp2
  go_loopw [6] (fun s6 wr => ∃ z : Nat, z ≤ needN l.length * 64 - (8 + l.length) ∧ Hid (OwnB wr w.heap.size s6 (laid l k ++ List.replicate z 0)) ∧ Hid (Below w.heap.size w wr)) (fun s6 _ => needN l.length * 64 - lenV s6)
  case atStart => exact ⟨0, Nat.zero_le _, HO, HB⟩
  case round =>
    obtain ⟨z, hz, HO, HB⟩ := hrel
    obtain ⟨az, cz, rfl⟩ := HO.out.lv
    have hlen : (laid l k ++ List.replicate z (0 : UInt8)).length = 8 + l.length + z := by simp
    have HLn := Lib.hid hlen
    have HO1 := Lib.hid (show OwnB wr w.heap.size (.slice az (8 + l.length + z) cz) (laid l k ++ List.replicate z 0) by have := HO.out; rw [hlen] at this; exact this) 
    rw [hlen]
    by_cases hfin : z = needN l.length * 64 - (8 + l.length)
    · have hN := HN.out
      have e0 : (((8 + l.length + z : Nat) : Int) % 64 == 0) = true := by simp; omega
      have e1 : (((8 + l.length + z : Nat) : Int) % 64 != 0) = false := by simp; omega
      have hF := HO.out
      rw [hfin] at hF
      have HF := Lib.hid (show OwnB wr w.heap.size (.slice az (8 + l.length + z) cz) (recd l k) by rw [← hlen, hfin]; exact hF)
      go_wp2
      go_ret
      exact ⟨_, rfl, HF.out, HB.out⟩
    · have hN := HN.out
      have e0 : (((8 + l.length + z : Nat) : Int) % 64 == 0) = false := by simp; omega
      have e1 : (((8 + l.length + z : Nat) : Int) % 64 != 0) = true := by simp; omega
      have hzlt : z + 1 ≤ needN l.length * 64 - (8 + l.length) := by omega
      have hzb : z ≤ 2000 := by omega
      clear hN hfin
      go_wp2_with (at_builtin; refine wpList_app_bytes rfl _ _ rfl w.heap.size (.slice az (8 + l.length + z) cz) (laid l k ++ List.replicate z 0) rfl (HO1.out.alloc _) _ [0] rfl (OwnB.isB (OwnB.lit [0] (Nat.le_refl _) (by simp) _ rfl)) (by simp; omega) (by have := HB.out.size; simp; omega) ?_)
      intro v3 w3 hown hgr
      have HO2 := Lib.hid (show OwnB w3 w.heap.size v3 (laid l k ++ List.replicate (z + 1) 0) by rw [List.replicate_succ']; simpa [List.append_assoc] using hown)
      have HB2 := Lib.hid ((HB.out.alloc HB.out.size (.cells #[.int .u8 0] 5)).grown hgr (by have := HB.out.size; simp; omega) (fun j e => (HO1.out.lt j e).1))
      obtain ⟨a3, c3, rfl⟩ := HO2.out.lv
      clear hown hgr
      go_wp2
      go_roundw
      case rel => exact ⟨z + 1, hzlt, HO2, HB2⟩
      case measure => simp [lenV]; omega

end Go.Proofs.Ytmkfiecdgghceaa
