/- Layer 5 (blocks): the document's Crash. -/
import Derived.Test.YtmkfiecdgghceaaC5
import Derived.Test.YtmkfiecdgghceaaB7
namespace Go.Proofs.Ytmkfiecdgghceaa
open Go.RowKit
set_option linter.unusedVariables false
set_option linter.unusedSimpArgs false

set_option maxHeartbeats 1000000 in
theorem crashR_bad (w : World) (q : Nat) (keep torn : Int) (h : keep < 0 ∨ torn < 0 ∨ 64 < torn) : Calls Try.prog 41 #[.pointer (some ⟨q, 0, none⟩), .int .i64 keep, .int .i64 torn] w fun e w' => e = .returned (.int .i64 3) ∧ w' = w := by
  by_cases h1 : keep < 0
  · go_enter Try.func41, Try.ntmps41
    go_wp2
    go_ret
    exact ⟨rfl, rfl⟩
  by_cases h2 : torn < 0
  · go_enter Try.func41, Try.ntmps41
    go_wp2
    go_ret
    exact ⟨rfl, rfl⟩
  · have h3 : 64 < torn := by omega
    go_enter Try.func41, Try.ntmps41
    go_wp2
    go_ret
    exact ⟨rfl, rfl⟩

def CrashRPost (w : World) (B q : Nat) (bs' : Bs) (most : Nat) (e : Ending) (w' : World) : Prop :=
  e = .returned (.int .i64 0) ∧ ∃ u, RefAt w' B q u bs' bs'.length most ∧ (∀ k, u.ownBlock = some k → w.heap.size ≤ k) ∧ Keeps (fun i => i = q) w w'
theorem crashR_end {w w3 : World} {B q : Nat} {v a : Value} {bs bs' : Bs} {lb : Int} {last most : Nat} (H : RefAt w B q v bs last most) (hB : Below w.heap.size w w3) (hc : w3.heap[q]? = some (.cells #[v, .int .i64 lb, .int .i64 (most : Int)] 69 (0, 0))) (ho : OwnB w3 w.heap.size a bs') (hn : bs'.length ≤ most * 64) :
    CrashRPost w B q bs' most (.returned (.int .i64 0)) ((w3.setCell ⟨q, 0, none⟩ a).setCell ⟨q, 1, none⟩ (.int .i64 (bs'.length : Nat))) := by
  have hqs : (w3.setCell ⟨q, 0, none⟩ a).heap[q]? = some (.cells #[a, .int .i64 lb, .int .i64 (most : Int)] 69 (0, 0)) := by rw [heap_setCell_same hc]; rfl
  have hne : ∀ k, a.ownBlock = some k → k ≠ q := fun k hk e => by
    have h1 := (ho.lt k hk).1
    have h2 := heap_lt H.cells
    omega
  exact ⟨rfl, a, ⟨by rw [heap_setCell_same hqs]; rfl, ownsRow_of_heap (ownsRow_mono ho (Nat.le_of_lt (Nat.lt_of_le_of_lt H.base (heap_lt H.cells)))) fun k hk => (heap_setCell_ne (hne k hk)).trans (heap_setCell_ne (hne k hk)), H.base, Nat.le_refl _, hn, H.hm⟩, fun k hk => (ho.lt k hk).1,
    ((Keeps.of_below (F := fun i => i = q) hB).setCell (p := ⟨q, 0, none⟩) (fun _ => rfl) _).setCell (p := ⟨q, 1, none⟩) (fun _ => rfl) _⟩
theorem IsB.cut {w : World} {g c E t : Nat} {bs : Bs} (h : IsB w (.slice (some ⟨g, 0, none⟩) bs.length c) bs) (hE : E + t ≤ bs.length) (ht : 0 < t) : IsB w (.slice (some ⟨g, E, none⟩) t (c - E)) ((bs.drop E).take t) := by
  rcases h with ⟨hv, hb⟩ | ⟨b, o, c', hv, h1, h2, h3⟩
  · cases hv
  · simp only [Value.slice.injEq, Option.some.injEq, Addr.mk.injEq, and_true, true_and] at hv
    obtain ⟨⟨rfl, rfl⟩, rfl⟩ := hv
    have hl : ((bs.drop E).take t).length = t := by rw [List.length_take, List.length_drop]; omega
    refine .inr ⟨g, E, c - E, by rw [hl], by omega, by omega, fun k hk => ?_⟩
    rw [List.getElem_take, List.getElem_drop]
    have := h3 (E + k) (by omega)
    simpa using this

set_option maxRecDepth 100000 in
set_option maxHeartbeats 4000000 in
theorem crashR_keep_a (w : World) (B q : Nat) (v : Value) (n : Nat) (bs : Bs) (last most : Nat) (keep torn : Int) (h : RefAt w B q v bs (last * 64) most) (hnl : bs.length = n * 64) (h1 : 0 ≤ keep) (h2 : 0 ≤ torn) (h3 : torn ≤ 64) (hk : (n : Int) - (last : Int) < keep) (ht : torn = 0 ∨ n ≤ crashN n last keep) :
    Calls Try.prog 41 #[.pointer (some ⟨q, 0, none⟩), .int .i64 keep, .int .i64 torn] w (CrashRPost w B q (bs.take (crashN n last keep * 64)) most) := by
  have H := Lib.hid h
  have hm := h.hm
  have hl := h.hl
  have hn := h.hn
  obtain ⟨a, c, rfl⟩ := h.lv
  obtain ⟨c0, f0⟩ := cells_of_block h.cells 0 (.slice a bs.length c) rfl
  obtain ⟨lb, hlb⟩ : ∃ lb, lb = last * 64 := ⟨_, rfl⟩
  have hc1 : w.cell? ⟨q, 1, none⟩ = some (.int .i64 (lb : Int)) ∧ w.frozen? ⟨q, 1, none⟩ = false := by rw [hlb]; exact cells_of_block h.cells 1 _ rfl
  obtain ⟨c1, f1⟩ := hc1
  have hcap : bs.length ≤ c ∧ c ≤ maxLen := by
    rcases h.row.isB with ⟨hv, hb⟩ | ⟨b, o, c', hv, e1, e2, _⟩
    · simp only [Value.slice.injEq] at hv
      rw [hb]; simp
      rw [hv.2.2]; unfold maxLen; omega
    · simp only [Value.slice.injEq, true_and] at hv; omega
  obtain ⟨hcap, hcapm⟩ := hcap
  obtain ⟨M, hM⟩ : ∃ M, M = crashN n last keep := ⟨_, rfl⟩
  rw [← hM] at ht ⊢
  obtain ⟨E, hE⟩ : ∃ E, E = M * 64 := ⟨_, rfl⟩
  obtain ⟨d, hd⟩ : ∃ d, d = n - last := ⟨_, rfl⟩
  have hMn : M ≤ n ∧ last ≤ M := by rw [hM]; unfold crashN; omega
  have hEn : E ≤ bs.length := by omega
  have hw1 : IntKind.i64.wrap ((bs.length : Int) - (lb : Int)) = (bs.length : Int) - (lb : Int) := IntWalk.i64_in _ (by omega)
  have hw2 : ((bs.length : Int) - (lb : Int)).tdiv 64 = (d : Int) := by rw [Int.tdiv_eq_ediv_of_nonneg (by omega)]; omega
  have hw3 : IntKind.i64.wrap (d : Int) = (d : Int) := IntWalk.i64_in _ (by omega)
  have hkd : (d : Int) < keep := by omega
  have hEE : (lb : Int) + (d : Int) * 64 = (E : Int) := by
    have := hM
    unfold crashN at this
    omega
  have q1 : ¬ keep < 0 := by omega
  have q2 : ¬ torn < 0 := by omega
  have q3 : ¬ 64 < torn := by omega
  have hd4 : d ≤ 4096 := by omega
  have hkk : 0 ≤ keep := by omega
  have hlb4 : lb ≤ 4096 * 64 := by omega
  have HE := Lib.hid hE
  have HM := Lib.hid hM
  have HMn := Lib.hid hMn
  have HT := Lib.hid ht
  have HNL := Lib.hid hnl
  have HIT := Lib.hid (H.out.row.isB.take hEn)
  have HQ := Lib.hid h.cells
  have HLB := Lib.hid hlb
  clear h hlb hM hE hd hMn ht hnl hk
  go_enter Try.func41, Try.ntmps41
  go_wp2
  go_still (by kernel_rfl)
  clear hw1 hw2 hw3
  have HLE := Lib.hid (show (bs.take E).length = E by rw [List.length_take]; omega)
  by_cases h0 : torn = 0
  · subst h0
    have q4 : ¬ (0 : Int) < 0 := by omega
    go_wp2_with (at_builtin; refine wpList_app_bytes rfl _ _ rfl w.heap.size (.slice none 0 0) [] rfl (World.ownsRow_nil _ _ _ _) _ (bs.take E) rfl (HIT.out.below (Below.refl _ w).drew) (by simp; omega) (Nat.le_refl _) ?_; intro v2 w2 ho2 hg2; rw [List.nil_append] at ho2; obtain ⟨a2, c2, rfl⟩ := ho2.lv; have HO2 := Lib.hid ho2; have HB2 := Lib.hid ((Below.refl w.heap.size w).drew.grown hg2 (Nat.le_refl _) (fun k e => by simp [Value.ownBlock] at e)); have HC2 := Lib.hid ((HB2.out.block q (heap_lt H.out.cells)).trans HQ.out); obtain ⟨k2, g2⟩ := cells_of_block HC2.out 0 (.slice a bs.length c) rfl; obtain ⟨k3, g3⟩ := cells_of_block HC2.out 1 (.int .i64 ((last * 64 : Nat) : Int)) rfl; clear ho2 hg2)
    have hfin := crashR_end H.out HB2.out HC2.out HO2.out (by rw [HLE.out]; omega)
    rw [HLE.out] at hfin
    have HF := Lib.hid hfin
    clear hfin
    go_ret
    rw [← HE.out]
    exact HF.out
  · have q4 : 0 < torn := by omega
    have q5 : ¬ (E : Int) < (bs.length : Int) := by have := HT.out; have := HE.out; have := HNL.out; omega
    go_wp2_with (at_builtin; refine wpList_app_bytes rfl _ _ rfl w.heap.size (.slice none 0 0) [] rfl (World.ownsRow_nil _ _ _ _) _ (bs.take E) rfl (HIT.out.below (Below.refl _ w).drew) (by simp; omega) (Nat.le_refl _) ?_; intro v2 w2 ho2 hg2; rw [List.nil_append] at ho2; obtain ⟨a2, c2, rfl⟩ := ho2.lv; have HO2 := Lib.hid ho2; have HB2 := Lib.hid ((Below.refl w.heap.size w).drew.grown hg2 (Nat.le_refl _) (fun k e => by simp [Value.ownBlock] at e)); have HC2 := Lib.hid ((HB2.out.block q (heap_lt H.out.cells)).trans HQ.out); obtain ⟨k2, g2⟩ := cells_of_block HC2.out 0 (.slice a bs.length c) rfl; obtain ⟨k3, g3⟩ := cells_of_block HC2.out 1 (.int .i64 ((last * 64 : Nat) : Int)) rfl; clear ho2 hg2)
    have hfin := crashR_end H.out HB2.out HC2.out HO2.out (by rw [HLE.out]; omega)
    rw [HLE.out] at hfin
    have HF := Lib.hid hfin
    clear hfin
    go_ret
    rw [← HE.out]
    exact HF.out

set_option maxRecDepth 100000 in
set_option maxHeartbeats 4000000 in
theorem crashR_tear_a (w : World) (B q : Nat) (v : Value) (n : Nat) (bs : Bs) (last most : Nat) (keep torn : Int) (h : RefAt w B q v bs (last * 64) most) (hnl : bs.length = n * 64) (h1 : 0 ≤ keep) (h2 : 0 ≤ torn) (h3 : torn ≤ 64) (hk : (n : Int) - (last : Int) < keep) (ht : 0 < torn ∧ crashN n last keep < n) :
    Calls Try.prog 41 #[.pointer (some ⟨q, 0, none⟩), .int .i64 keep, .int .i64 torn] w (CrashRPost w B q (bs.take (crashN n last keep * 64 + torn.toNat) ++ List.replicate (64 - torn.toNat) 0) most) := by
  have H := Lib.hid h
  have hm := h.hm
  have hl := h.hl
  have hn := h.hn
  obtain ⟨a, c, rfl⟩ := h.lv
  obtain ⟨c0, f0⟩ := cells_of_block h.cells 0 (.slice a bs.length c) rfl
  obtain ⟨lb, hlb⟩ : ∃ lb, lb = last * 64 := ⟨_, rfl⟩
  have hc1 : w.cell? ⟨q, 1, none⟩ = some (.int .i64 (lb : Int)) ∧ w.frozen? ⟨q, 1, none⟩ = false := by rw [hlb]; exact cells_of_block h.cells 1 _ rfl
  obtain ⟨c1, f1⟩ := hc1
  have hcap : bs.length ≤ c ∧ c ≤ maxLen := by
    rcases h.row.isB with ⟨hv, hb⟩ | ⟨b, o, c', hv, e1, e2, _⟩
    · simp only [Value.slice.injEq] at hv
      rw [hb]; simp
      rw [hv.2.2]; unfold maxLen; omega
    · simp only [Value.slice.injEq, true_and] at hv; omega
  obtain ⟨hcap, hcapm⟩ := hcap
  obtain ⟨M, hM⟩ : ∃ M, M = crashN n last keep := ⟨_, rfl⟩
  rw [← hM] at ht ⊢
  obtain ⟨E, hE⟩ : ∃ E, E = M * 64 := ⟨_, rfl⟩
  obtain ⟨d, hd⟩ : ∃ d, d = n - last := ⟨_, rfl⟩
  have hMn : M ≤ n ∧ last ≤ M := by rw [hM]; unfold crashN; omega
  have hEn : E ≤ bs.length := by omega
  have hw1 : IntKind.i64.wrap ((bs.length : Int) - (lb : Int)) = (bs.length : Int) - (lb : Int) := IntWalk.i64_in _ (by omega)
  have hw2 : ((bs.length : Int) - (lb : Int)).tdiv 64 = (d : Int) := by rw [Int.tdiv_eq_ediv_of_nonneg (by omega)]; omega
  have hw3 : IntKind.i64.wrap (d : Int) = (d : Int) := IntWalk.i64_in _ (by omega)
  have hkd : (d : Int) < keep := by omega
  have hEE : (lb : Int) + (d : Int) * 64 = (E : Int) := by
    have := hM
    unfold crashN at this
    omega
  have q1 : ¬ keep < 0 := by omega
  have q2 : ¬ torn < 0 := by omega
  have q3 : ¬ 64 < torn := by omega
  have hd4 : d ≤ 4096 := by omega
  have hkk : 0 ≤ keep := by omega
  have hlb4 : lb ≤ 4096 * 64 := by omega
  have HE := Lib.hid hE
  have HM := Lib.hid hM
  have HMn := Lib.hid hMn
  have HT := Lib.hid ht
  have HNL := Lib.hid hnl
  have HIT := Lib.hid (H.out.row.isB.take hEn)
  have HQ := Lib.hid h.cells
  have HLB := Lib.hid hlb
  clear h hlb hM hE hd hMn ht hnl hk
  go_enter Try.func41, Try.ntmps41
  go_wp2
  go_still (by kernel_rfl)
  clear hw1 hw2 hw3
  obtain ⟨ht0, ht1⟩ := HT.out
  obtain ⟨t, rfl⟩ : ∃ t : Nat, torn = (t : Int) := ⟨torn.toNat, by omega⟩
  have q4 : 0 < (t : Int) := ht0
  have hEl : E + 64 ≤ bs.length := by have := HE.out; have := HNL.out; omega
  have q5 : (E : Int) < (bs.length : Int) := by omega
  have q6 : E + t ≤ bs.length := by omega
  have q7 : t ≤ 64 := by omega
  have q8 : ¬ c = E := by omega
  have q9 : E + t - E = t := by omega
  have HLE := Lib.hid (show (bs.take E).length = E by rw [List.length_take]; omega)
  obtain ⟨g, rfl⟩ : ∃ g, a = some ⟨g, 0, none⟩ := by
    obtain ⟨_, ⟨hv, hn0⟩ | ⟨g, cap, cur, hv, _⟩⟩ := H.out.row
    · omega
    · simp only [Value.slice.injEq] at hv
      exact ⟨g, hv.1⟩
  have HCut := Lib.hid (show IsB w (.slice (some ⟨g, E, none⟩) (E + t - E) (c - E)) ((bs.drop E).take t) by rw [q9]; exact H.out.row.isB.cut q6 (by omega))
  clear q9
  have HLD := Lib.hid (show ((bs.drop E).take t).length = t by rw [List.length_take, List.length_drop]; omega)
  go_wp2_with (first | (at_builtin; refine wpList_app_bytes rfl _ _ rfl w.heap.size (.slice none 0 0) [] rfl (World.ownsRow_nil _ _ _ _) _ (bs.take E) rfl (HIT.out.below (Below.refl _ w).drew) (by simp; omega) (Nat.le_refl _) ?_; intro v2 w2 ho2 hg2; rw [List.nil_append] at ho2; obtain ⟨a2, c2, rfl⟩ := ho2.lv; have HO2 := Lib.hid ho2; have HB2 := Lib.hid ((Below.refl w.heap.size w).drew.grown hg2 (Nat.le_refl _) (fun k e => by simp [Value.ownBlock] at e)); have HC2 := Lib.hid ((HB2.out.block q (heap_lt H.out.cells)).trans HQ.out); obtain ⟨k2, g2⟩ := cells_of_block HC2.out 0 (.slice (some ⟨g, 0, none⟩) bs.length c) rfl; obtain ⟨k3, g3⟩ := cells_of_block HC2.out 1 (.int .i64 ((last * 64 : Nat) : Int)) rfl; have HO2' := Lib.hid (show OwnB w2 w.heap.size (.slice a2 E c2) (bs.take E) by have := HO2.out; rw [HLE.out] at this; exact this); clear ho2 hg2) | (at_builtin; refine wpList_app_bytes rfl _ _ rfl w.heap.size (.slice a2 E c2) (bs.take E) rfl HO2'.out _ ((bs.drop E).take t) rfl (HCut.out.below HB2.out) (by rw [HLE.out, HLD.out]; omega) HB2.out.size ?_; intro v3 w3 ho3 hg3; have HO3 := Lib.hid (show OwnB w3 w.heap.size v3 (bs.take E ++ (bs.drop E).take t ++ List.replicate 0 0) by simpa using ho3); have HB3 := Lib.hid (HB2.out.grown hg3 HB2.out.size (fun k e => (HO2'.out.lt k e).1)); clear ho3 hg3))
  clear k2 g2 k3 g3
  go_loopw [9] (fun s9 wr => ∃ z : Nat, z ≤ 64 - t ∧ Hid (OwnB wr w.heap.size s9 (bs.take E ++ (bs.drop E).take t ++ List.replicate z 0)) ∧ Hid (Below w.heap.size w wr)) (fun s9 _ => E + 64 - lenV s9)
  case atStart => exact ⟨0, Nat.zero_le _, HO3, HB3⟩
  case round =>
    obtain ⟨z, hz, HO, HB⟩ := hrel
    obtain ⟨az, cz, rfl⟩ := HO.out.lv
    have hlen : (bs.take E ++ (bs.drop E).take t ++ List.replicate z (0 : UInt8)).length = E + t + z := by rw [List.length_append, List.length_append, HLE.out, HLD.out]; simp
    have HO1 := Lib.hid (show OwnB wr w.heap.size (.slice az (E + t + z) cz) (bs.take E ++ (bs.drop E).take t ++ List.replicate z 0) by have := HO.out; rw [hlen] at this; exact this)
    rw [hlen]
    by_cases hfin : z = 64 - t
    · have e0 : (((E + t + z : Nat) : Int) % 64 == 0) = true := by have := HE.out; simp; omega
      have e1 : (((E + t + z : Nat) : Int) % 64 != 0) = false := by have := HE.out; simp; omega
      have HC3 := Lib.hid ((HB.out.block q (heap_lt H.out.cells)).trans HQ.out)
      obtain ⟨k2, g2⟩ := cells_of_block HC3.out 0 (.slice (some ⟨g, 0, none⟩) bs.length c) rfl
      obtain ⟨k3, g3⟩ := cells_of_block HC3.out 1 (.int .i64 ((last * 64 : Nat) : Int)) rfl
      have hfl := crashR_end H.out HB.out HC3.out HO1.out (by rw [hlen]; omega)
      rw [hlen] at hfl
      have HF := Lib.hid hfl
      have HFin := Lib.hid hfin
      have HTk := Lib.hid (show bs.take (M * 64 + t) = bs.take E ++ (bs.drop E).take t by rw [← HE.out, List.take_add])
      clear hfl hfin hlen
      go_wp2
      go_ret
      rw [show (Int.toNat (t : Int)) = t from rfl, HTk.out, ← HFin.out]
      exact HF.out
    · have e0 : (((E + t + z : Nat) : Int) % 64 == 0) = false := by have := HE.out; simp; omega
      have e1 : (((E + t + z : Nat) : Int) % 64 != 0) = true := by have := HE.out; simp; omega
      have hzlt : z + 1 ≤ 64 - t := by omega
      have hlm : (bs.take E ++ (bs.drop E).take t ++ List.replicate z (0 : UInt8)).length + 1 ≤ 140737488355328 := by rw [hlen]; omega
      clear hfin
      go_wp2_with (at_builtin; refine wpList_app_bytes rfl _ _ rfl w.heap.size (.slice az (E + t + z) cz) (bs.take E ++ (bs.drop E).take t ++ List.replicate z 0) rfl (HO1.out.alloc _) _ [0] rfl (OwnB.isB (OwnB.lit [0] (Nat.le_refl _) (by simp) _ rfl)) hlm (by have := HB.out.size; simp; omega) ?_)
      intro v3 w4 hown hgr
      have HO2 := Lib.hid (show OwnB w4 w.heap.size v3 (bs.take E ++ (bs.drop E).take t ++ List.replicate (z + 1) 0) by rw [List.replicate_succ']; simpa [List.append_assoc] using hown)
      have HB2 := Lib.hid ((HB.out.alloc HB.out.size (.cells #[.int .u8 0] 5)).grown hgr (by have := HB.out.size; simp; omega) (fun j e => (HO1.out.lt j e).1))
      obtain ⟨a3, c3, rfl⟩ := HO2.out.lv
      have hl3 : (bs.take E ++ (bs.drop E).take t ++ List.replicate (z + 1) (0 : UInt8)).length = E + t + (z + 1) := by rw [List.length_append, List.length_append, HLE.out, HLD.out]; simp
      have HL3 := Lib.hid hl3
      clear hown hgr hlm hl3
      go_wp2
      go_roundw
      case rel => exact ⟨z + 1, hzlt, HO2, HB2⟩
      case measure => simp only [lenV]; rw [HL3.out]; omega

set_option maxRecDepth 100000 in
set_option maxHeartbeats 4000000 in
theorem crashR_keep_b (w : World) (B q : Nat) (v : Value) (n : Nat) (bs : Bs) (last most : Nat) (keep torn : Int) (h : RefAt w B q v bs (last * 64) most) (hnl : bs.length = n * 64) (h1 : 0 ≤ keep) (h2 : 0 ≤ torn) (h3 : torn ≤ 64) (hk : keep ≤ (n : Int) - (last : Int)) (ht : torn = 0 ∨ n ≤ crashN n last keep) :
    Calls Try.prog 41 #[.pointer (some ⟨q, 0, none⟩), .int .i64 keep, .int .i64 torn] w (CrashRPost w B q (bs.take (crashN n last keep * 64)) most) := by
  have H := Lib.hid h
  have hm := h.hm
  have hl := h.hl
  have hn := h.hn
  obtain ⟨a, c, rfl⟩ := h.lv
  obtain ⟨c0, f0⟩ := cells_of_block h.cells 0 (.slice a bs.length c) rfl
  obtain ⟨lb, hlb⟩ : ∃ lb, lb = last * 64 := ⟨_, rfl⟩
  have hc1 : w.cell? ⟨q, 1, none⟩ = some (.int .i64 (lb : Int)) ∧ w.frozen? ⟨q, 1, none⟩ = false := by rw [hlb]; exact cells_of_block h.cells 1 _ rfl
  obtain ⟨c1, f1⟩ := hc1
  have hcap : bs.length ≤ c ∧ c ≤ maxLen := by
    rcases h.row.isB with ⟨hv, hb⟩ | ⟨b, o, c', hv, e1, e2, _⟩
    · simp only [Value.slice.injEq] at hv
      rw [hb]; simp
      rw [hv.2.2]; unfold maxLen; omega
    · simp only [Value.slice.injEq, true_and] at hv; omega
  obtain ⟨hcap, hcapm⟩ := hcap
  obtain ⟨M, hM⟩ : ∃ M, M = crashN n last keep := ⟨_, rfl⟩
  rw [← hM] at ht ⊢
  obtain ⟨E, hE⟩ : ∃ E, E = M * 64 := ⟨_, rfl⟩
  obtain ⟨d, hd⟩ : ∃ d, d = n - last := ⟨_, rfl⟩
  have hMn : M ≤ n ∧ last ≤ M := by rw [hM]; unfold crashN; omega
  have hEn : E ≤ bs.length := by omega
  have hw1 : IntKind.i64.wrap ((bs.length : Int) - (lb : Int)) = (bs.length : Int) - (lb : Int) := IntWalk.i64_in _ (by omega)
  have hw2 : ((bs.length : Int) - (lb : Int)).tdiv 64 = (d : Int) := by rw [Int.tdiv_eq_ediv_of_nonneg (by omega)]; omega
  have hw3 : IntKind.i64.wrap (d : Int) = (d : Int) := IntWalk.i64_in _ (by omega)
  have hkd : ¬ (d : Int) < keep := by omega
  have hEE : (lb : Int) + keep * 64 = (E : Int) := by
    have := hM
    unfold crashN at this
    omega
  have q1 : ¬ keep < 0 := by omega
  have q2 : ¬ torn < 0 := by omega
  have q3 : ¬ 64 < torn := by omega
  have hd4 : d ≤ 4096 := by omega
  have hkk : keep ≤ 4096 := by omega
  have hlb4 : lb ≤ 4096 * 64 := by omega
  have HE := Lib.hid hE
  have HM := Lib.hid hM
  have HMn := Lib.hid hMn
  have HT := Lib.hid ht
  have HNL := Lib.hid hnl
  have HIT := Lib.hid (H.out.row.isB.take hEn)
  have HQ := Lib.hid h.cells
  have HLB := Lib.hid hlb
  clear h hlb hM hE hd hMn ht hnl hk
  go_enter Try.func41, Try.ntmps41
  go_wp2
  go_still (by kernel_rfl)
  clear hw1 hw2 hw3
  have HLE := Lib.hid (show (bs.take E).length = E by rw [List.length_take]; omega)
  by_cases h0 : torn = 0
  · subst h0
    have q4 : ¬ (0 : Int) < 0 := by omega
    go_wp2_with (at_builtin; refine wpList_app_bytes rfl _ _ rfl w.heap.size (.slice none 0 0) [] rfl (World.ownsRow_nil _ _ _ _) _ (bs.take E) rfl (HIT.out.below (Below.refl _ w).drew) (by simp; omega) (Nat.le_refl _) ?_; intro v2 w2 ho2 hg2; rw [List.nil_append] at ho2; obtain ⟨a2, c2, rfl⟩ := ho2.lv; have HO2 := Lib.hid ho2; have HB2 := Lib.hid ((Below.refl w.heap.size w).drew.grown hg2 (Nat.le_refl _) (fun k e => by simp [Value.ownBlock] at e)); have HC2 := Lib.hid ((HB2.out.block q (heap_lt H.out.cells)).trans HQ.out); obtain ⟨k2, g2⟩ := cells_of_block HC2.out 0 (.slice a bs.length c) rfl; obtain ⟨k3, g3⟩ := cells_of_block HC2.out 1 (.int .i64 ((last * 64 : Nat) : Int)) rfl; clear ho2 hg2)
    have hfin := crashR_end H.out HB2.out HC2.out HO2.out (by rw [HLE.out]; omega)
    rw [HLE.out] at hfin
    have HF := Lib.hid hfin
    clear hfin
    go_ret
    rw [← HE.out]
    exact HF.out
  · have q4 : 0 < torn := by omega
    have q5 : ¬ (E : Int) < (bs.length : Int) := by have := HT.out; have := HE.out; have := HNL.out; omega
    go_wp2_with (at_builtin; refine wpList_app_bytes rfl _ _ rfl w.heap.size (.slice none 0 0) [] rfl (World.ownsRow_nil _ _ _ _) _ (bs.take E) rfl (HIT.out.below (Below.refl _ w).drew) (by simp; omega) (Nat.le_refl _) ?_; intro v2 w2 ho2 hg2; rw [List.nil_append] at ho2; obtain ⟨a2, c2, rfl⟩ := ho2.lv; have HO2 := Lib.hid ho2; have HB2 := Lib.hid ((Below.refl w.heap.size w).drew.grown hg2 (Nat.le_refl _) (fun k e => by simp [Value.ownBlock] at e)); have HC2 := Lib.hid ((HB2.out.block q (heap_lt H.out.cells)).trans HQ.out); obtain ⟨k2, g2⟩ := cells_of_block HC2.out 0 (.slice a bs.length c) rfl; obtain ⟨k3, g3⟩ := cells_of_block HC2.out 1 (.int .i64 ((last * 64 : Nat) : Int)) rfl; clear ho2 hg2)
    have hfin := crashR_end H.out HB2.out HC2.out HO2.out (by rw [HLE.out]; omega)
    rw [HLE.out] at hfin
    have HF := Lib.hid hfin
    clear hfin
    go_ret
    rw [← HE.out]
    exact HF.out

set_option maxRecDepth 100000 in
set_option maxHeartbeats 4000000 in
theorem crashR_tear_b (w : World) (B q : Nat) (v : Value) (n : Nat) (bs : Bs) (last most : Nat) (keep torn : Int) (h : RefAt w B q v bs (last * 64) most) (hnl : bs.length = n * 64) (h1 : 0 ≤ keep) (h2 : 0 ≤ torn) (h3 : torn ≤ 64) (hk : keep ≤ (n : Int) - (last : Int)) (ht : 0 < torn ∧ crashN n last keep < n) :
    Calls Try.prog 41 #[.pointer (some ⟨q, 0, none⟩), .int .i64 keep, .int .i64 torn] w (CrashRPost w B q (bs.take (crashN n last keep * 64 + torn.toNat) ++ List.replicate (64 - torn.toNat) 0) most) := by
  have H := Lib.hid h
  have hm := h.hm
  have hl := h.hl
  have hn := h.hn
  obtain ⟨a, c, rfl⟩ := h.lv
  obtain ⟨c0, f0⟩ := cells_of_block h.cells 0 (.slice a bs.length c) rfl
  obtain ⟨lb, hlb⟩ : ∃ lb, lb = last * 64 := ⟨_, rfl⟩
  have hc1 : w.cell? ⟨q, 1, none⟩ = some (.int .i64 (lb : Int)) ∧ w.frozen? ⟨q, 1, none⟩ = false := by rw [hlb]; exact cells_of_block h.cells 1 _ rfl
  obtain ⟨c1, f1⟩ := hc1
  have hcap : bs.length ≤ c ∧ c ≤ maxLen := by
    rcases h.row.isB with ⟨hv, hb⟩ | ⟨b, o, c', hv, e1, e2, _⟩
    · simp only [Value.slice.injEq] at hv
      rw [hb]; simp
      rw [hv.2.2]; unfold maxLen; omega
    · simp only [Value.slice.injEq, true_and] at hv; omega
  obtain ⟨hcap, hcapm⟩ := hcap
  obtain ⟨M, hM⟩ : ∃ M, M = crashN n last keep := ⟨_, rfl⟩
  rw [← hM] at ht ⊢
  obtain ⟨E, hE⟩ : ∃ E, E = M * 64 := ⟨_, rfl⟩
  obtain ⟨d, hd⟩ : ∃ d, d = n - last := ⟨_, rfl⟩
  have hMn : M ≤ n ∧ last ≤ M := by rw [hM]; unfold crashN; omega
  have hEn : E ≤ bs.length := by omega
  have hw1 : IntKind.i64.wrap ((bs.length : Int) - (lb : Int)) = (bs.length : Int) - (lb : Int) := IntWalk.i64_in _ (by omega)
  have hw2 : ((bs.length : Int) - (lb : Int)).tdiv 64 = (d : Int) := by rw [Int.tdiv_eq_ediv_of_nonneg (by omega)]; omega
  have hw3 : IntKind.i64.wrap (d : Int) = (d : Int) := IntWalk.i64_in _ (by omega)
  have hkd : ¬ (d : Int) < keep := by omega
  have hEE : (lb : Int) + keep * 64 = (E : Int) := by
    have := hM
    unfold crashN at this
    omega
  have q1 : ¬ keep < 0 := by omega
  have q2 : ¬ torn < 0 := by omega
  have q3 : ¬ 64 < torn := by omega
  have hd4 : d ≤ 4096 := by omega
  have hkk : keep ≤ 4096 := by omega
  have hlb4 : lb ≤ 4096 * 64 := by omega
  have HE := Lib.hid hE
  have HM := Lib.hid hM
  have HMn := Lib.hid hMn
  have HT := Lib.hid ht
  have HNL := Lib.hid hnl
  have HIT := Lib.hid (H.out.row.isB.take hEn)
  have HQ := Lib.hid h.cells
  have HLB := Lib.hid hlb
  clear h hlb hM hE hd hMn ht hnl hk
  go_enter Try.func41, Try.ntmps41
  go_wp2
  go_still (by kernel_rfl)
  clear hw1 hw2 hw3
  obtain ⟨ht0, ht1⟩ := HT.out
  obtain ⟨t, rfl⟩ : ∃ t : Nat, torn = (t : Int) := ⟨torn.toNat, by omega⟩
  have q4 : 0 < (t : Int) := ht0
  have hEl : E + 64 ≤ bs.length := by have := HE.out; have := HNL.out; omega
  have q5 : (E : Int) < (bs.length : Int) := by omega
  have q6 : E + t ≤ bs.length := by omega
  have q7 : t ≤ 64 := by omega
  have q8 : ¬ c = E := by omega
  have q9 : E + t - E = t := by omega
  have HLE := Lib.hid (show (bs.take E).length = E by rw [List.length_take]; omega)
  obtain ⟨g, rfl⟩ : ∃ g, a = some ⟨g, 0, none⟩ := by
    obtain ⟨_, ⟨hv, hn0⟩ | ⟨g, cap, cur, hv, _⟩⟩ := H.out.row
    · omega
    · simp only [Value.slice.injEq] at hv
      exact ⟨g, hv.1⟩
  have HCut := Lib.hid (show IsB w (.slice (some ⟨g, E, none⟩) (E + t - E) (c - E)) ((bs.drop E).take t) by rw [q9]; exact H.out.row.isB.cut q6 (by omega))
  clear q9
  have HLD := Lib.hid (show ((bs.drop E).take t).length = t by rw [List.length_take, List.length_drop]; omega)
  go_wp2_with (first | (at_builtin; refine wpList_app_bytes rfl _ _ rfl w.heap.size (.slice none 0 0) [] rfl (World.ownsRow_nil _ _ _ _) _ (bs.take E) rfl (HIT.out.below (Below.refl _ w).drew) (by simp; omega) (Nat.le_refl _) ?_; intro v2 w2 ho2 hg2; rw [List.nil_append] at ho2; obtain ⟨a2, c2, rfl⟩ := ho2.lv; have HO2 := Lib.hid ho2; have HB2 := Lib.hid ((Below.refl w.heap.size w).drew.grown hg2 (Nat.le_refl _) (fun k e => by simp [Value.ownBlock] at e)); have HC2 := Lib.hid ((HB2.out.block q (heap_lt H.out.cells)).trans HQ.out); obtain ⟨k2, g2⟩ := cells_of_block HC2.out 0 (.slice (some ⟨g, 0, none⟩) bs.length c) rfl; obtain ⟨k3, g3⟩ := cells_of_block HC2.out 1 (.int .i64 ((last * 64 : Nat) : Int)) rfl; have HO2' := Lib.hid (show OwnB w2 w.heap.size (.slice a2 E c2) (bs.take E) by have := HO2.out; rw [HLE.out] at this; exact this); clear ho2 hg2) | (at_builtin; refine wpList_app_bytes rfl _ _ rfl w.heap.size (.slice a2 E c2) (bs.take E) rfl HO2'.out _ ((bs.drop E).take t) rfl (HCut.out.below HB2.out) (by rw [HLE.out, HLD.out]; omega) HB2.out.size ?_; intro v3 w3 ho3 hg3; have HO3 := Lib.hid (show OwnB w3 w.heap.size v3 (bs.take E ++ (bs.drop E).take t ++ List.replicate 0 0) by simpa using ho3); have HB3 := Lib.hid (HB2.out.grown hg3 HB2.out.size (fun k e => (HO2'.out.lt k e).1)); clear ho3 hg3))
  clear k2 g2 k3 g3
  go_loopw [9] (fun s9 wr => ∃ z : Nat, z ≤ 64 - t ∧ Hid (OwnB wr w.heap.size s9 (bs.take E ++ (bs.drop E).take t ++ List.replicate z 0)) ∧ Hid (Below w.heap.size w wr)) (fun s9 _ => E + 64 - lenV s9)
  case atStart => exact ⟨0, Nat.zero_le _, HO3, HB3⟩
  case round =>
    obtain ⟨z, hz, HO, HB⟩ := hrel
    obtain ⟨az, cz, rfl⟩ := HO.out.lv
    have hlen : (bs.take E ++ (bs.drop E).take t ++ List.replicate z (0 : UInt8)).length = E + t + z := by rw [List.length_append, List.length_append, HLE.out, HLD.out]; simp
    have HO1 := Lib.hid (show OwnB wr w.heap.size (.slice az (E + t + z) cz) (bs.take E ++ (bs.drop E).take t ++ List.replicate z 0) by have := HO.out; rw [hlen] at this; exact this)
    rw [hlen]
    by_cases hfin : z = 64 - t
    · have e0 : (((E + t + z : Nat) : Int) % 64 == 0) = true := by have := HE.out; simp; omega
      have e1 : (((E + t + z : Nat) : Int) % 64 != 0) = false := by have := HE.out; simp; omega
      have HC3 := Lib.hid ((HB.out.block q (heap_lt H.out.cells)).trans HQ.out)
      obtain ⟨k2, g2⟩ := cells_of_block HC3.out 0 (.slice (some ⟨g, 0, none⟩) bs.length c) rfl
      obtain ⟨k3, g3⟩ := cells_of_block HC3.out 1 (.int .i64 ((last * 64 : Nat) : Int)) rfl
      have hfl := crashR_end H.out HB.out HC3.out HO1.out (by rw [hlen]; omega)
      rw [hlen] at hfl
      have HF := Lib.hid hfl
      have HFin := Lib.hid hfin
      have HTk := Lib.hid (show bs.take (M * 64 + t) = bs.take E ++ (bs.drop E).take t by rw [← HE.out, List.take_add])
      clear hfl hfin hlen
      go_wp2
      go_ret
      rw [show (Int.toNat (t : Int)) = t from rfl, HTk.out, ← HFin.out]
      exact HF.out
    · have e0 : (((E + t + z : Nat) : Int) % 64 == 0) = false := by have := HE.out; simp; omega
      have e1 : (((E + t + z : Nat) : Int) % 64 != 0) = true := by have := HE.out; simp; omega
      have hzlt : z + 1 ≤ 64 - t := by omega
      have hlm : (bs.take E ++ (bs.drop E).take t ++ List.replicate z (0 : UInt8)).length + 1 ≤ 140737488355328 := by rw [hlen]; omega
      clear hfin
      go_wp2_with (at_builtin; refine wpList_app_bytes rfl _ _ rfl w.heap.size (.slice az (E + t + z) cz) (bs.take E ++ (bs.drop E).take t ++ List.replicate z 0) rfl (HO1.out.alloc _) _ [0] rfl (OwnB.isB (OwnB.lit [0] (Nat.le_refl _) (by simp) _ rfl)) hlm (by have := HB.out.size; simp; omega) ?_)
      intro v3 w4 hown hgr
      have HO2 := Lib.hid (show OwnB w4 w.heap.size v3 (bs.take E ++ (bs.drop E).take t ++ List.replicate (z + 1) 0) by rw [List.replicate_succ']; simpa [List.append_assoc] using hown)
      have HB2 := Lib.hid ((HB.out.alloc HB.out.size (.cells #[.int .u8 0] 5)).grown hgr (by have := HB.out.size; simp; omega) (fun j e => (HO1.out.lt j e).1))
      obtain ⟨a3, c3, rfl⟩ := HO2.out.lv
      have hl3 : (bs.take E ++ (bs.drop E).take t ++ List.replicate (z + 1) (0 : UInt8)).length = E + t + (z + 1) := by rw [List.length_append, List.length_append, HLE.out, HLD.out]; simp
      have HL3 := Lib.hid hl3
      clear hown hgr hlm hl3
      go_wp2
      go_roundw
      case rel => exact ⟨z + 1, hzlt, HO2, HB2⟩
      case measure => simp only [lenV]; rw [HL3.out]; omega


end Go.Proofs.Ytmkfiecdgghceaa
