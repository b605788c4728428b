/- A part of the walks: contracts of functions. -/
import Derived.Test.YtemeedfldapcjaaR7
namespace Go.Proofs.Ytemeedfldapcjaa
open Go.RowKit
set_option linter.unusedVariables false
set_option linter.unusedSimpArgs false
theorem due_hi (now d : Int) (h0 : 0 ≤ now) (h1 : now ≤ topU) (hd : 0 ≤ d) (h64 : d ≤ 64) (h : ¬ d ≤ topU - now) : IntKind.u64.wrap (now + d) = now + d - 18446744073709551616 := by
  unfold topU at *
  simp [IntKind.wrap, IntKind.bits, IntKind.signed]; omega

set_option maxRecDepth 100000 in
set_option maxHeartbeats 4000000 in
theorem failR_any (R : RLoc) (r : RQ) (k : GKey) (now : Int) (w : World) (h : RAt w R r) (hlen : r.l.length < 1000) (hfl : r.fs.length < 1000) (hn : 0 ≤ (assoc r.fs k).getD 0 ∧ (assoc r.fs k).getD 0 ≤ 40) (hnow : 0 ≤ now ∧ now ≤ topU) :
    Calls Try.prog 43 #[.pointer (some ⟨R.rq, 0, none⟩), .agg #[.int .u8 k.kind, .string k.name], .int .u64 now] w fun e w' => e = .returned (.int .i64 (r.code k)) ∧ ∃ R', RAt w' R' (r.fail k now) ∧ Keeps R.mine w w' ∧ R.Next R' w := by
  have h' := h.keep ((Keeps.refl (fun _ => False) w).alloc (.cells #[.int .u8 k.kind, .string k.name] 28)) (by simp)
  have H := at_any R r k _ h'
  have HR := Lib.hid h'
  have HK := Lib.hid ((Keeps.refl R.mine w).alloc (.cells #[.int .u8 k.kind, .string k.name] 28))
  have hbx : (w.alloc (.cells #[.int .u8 k.kind, .string k.name] 28)).heap[w.heap.size]? = some (.cells #[.int .u8 k.kind, .string k.name] 28) := heap_alloc_eq
  have HX := Lib.hid hbx
  have hmx : ¬ R.mine w.heap.size := fun hm => by have := h.lt _ hm; omega
  have HMX := Lib.hid hmx
  clear h h' hbx hmx
  have hsp := atI_split r.l k
  by_cases hfu : r.full k = true
  · have hc : r.code k = 7 := by simp [RQ.code, hfu]
    have ha : r.fail k now = r := by simp [RQ.fail, hfu]
    rw [hc, ha]
    simp only [RQ.full, Bool.and_eq_true, decide_eq_true_eq, Option.isNone_iff_eq_none] at hfu
    obtain ⟨hn, hl⟩ := hfu
    have ea : atI r.l k = -1 := by
      rcases hsp with ⟨e, _⟩ | ⟨i, hi, _, e, _⟩
      · exact e
      · rw [hn] at e; cases e
    rw [ea] at H
    clear hsp hn ea hc ha
    go_enter Try.func43, Try.ntmps43
    go_wp2_with fail
    refine H.mono ?_
    rintro e w1 ⟨rfl, hb⟩
    have hR1 := HR.out.keep (Keeps.of_below (F := fun _ => False) hb) (by simp)
    have HR1 := Lib.hid hR1
    have HK1 := Lib.hid (HK.out.trans (Keeps.of_below hb))
    obtain ⟨ao, cap, c0⟩ := hR1.len
    clear hb hR1 H
    go_wp2
    go_ret
    exact ⟨rfl, R, HR1.out, HK1.out, .refl _ _⟩
  have hc : r.code k = 0 := by simp [RQ.code, hfu]
  have ha : r.fail k now = (r.setf k (r.failN k)).put k (failDue now (r.failN k)) := by simp [RQ.fail, hfu]
  rw [hc, ha]
  have hcase : (atI r.l k = -1 ∧ ¬ (256 : Int) ≤ r.l.length) ∨ ∃ i : Nat, atI r.l k = i := by
    rcases hsp with ⟨e, e2, _⟩ | ⟨i, hi, e, _⟩
    · left; refine ⟨e, ?_⟩
      intro h
      exact hfu (by simp [RQ.full, e2]; omega)
    · right; exact ⟨i, e⟩
  clear hsp hc ha hfu
  have hN : 1 ≤ r.failN k ∧ r.failN k ≤ 40 := by unfold RQ.failN; omega
  have HN := Lib.hid hN
  have hdl := delayB_le (r.failN k)
  have hdue : (delayB (r.failN k) ≤ topU - now ∧ IntKind.u64.wrap (now + delayB (r.failN k)) = now + delayB (r.failN k) ∧ failDue now (r.failN k) = now + delayB (r.failN k)) ∨
      (¬ delayB (r.failN k) ≤ topU - now ∧ IntKind.u64.wrap (now + delayB (r.failN k)) = now + delayB (r.failN k) - 18446744073709551616 ∧ failDue now (r.failN k) = 18446744073709551615) := by
    by_cases hx : delayB (r.failN k) ≤ topU - now
    · exact .inl ⟨hx, due_lo _ _ hnow.1 hnow.2 hdl.1 hx, by unfold failDue; omega⟩
    · exact .inr ⟨hx, due_hi _ _ hnow.1 hnow.2 hdl.1 hdl.2 hx, by unfold failDue topU at *; omega⟩
  obtain ⟨n0, n1⟩ := hnow
  unfold topU at n1
  obtain ⟨d0, d1⟩ := hdl
  have HS := Lib.hid (fun (w' : World) (h' : RAt w' R r) => setR_any R r k (r.failN k) w' h' hfl)
  have HP := Lib.hid (fun (w' : World) (R' : RLoc) (h' : RAt w' R' (r.setf k (r.failN k))) => putR_any R' (r.setf k (r.failN k)) k (failDue now (r.failN k)) w' h' hlen)
  have HD := Lib.hid (fun w' => delayR_any (r.failN k) w' hN.1 hN.2)
  have hf : (assoc r.fs k).getD 0 + 1 ≤ 40 ∧ r.failN k = (assoc r.fs k).getD 0 + 1 ∨ ¬ (assoc r.fs k).getD 0 + 1 ≤ 40 ∧ r.failN k = 40 := by unfold RQ.failN; omega
  have HF := Lib.hid (fun w' (h' : RAt w' R r) => failsR_any R r k w' h')
  generalize hD : delayB (r.failN k) = D at *
  generalize hFD : failDue now (r.failN k) = FD at *
  generalize hNN : r.failN k = N at *
  generalize hFF : (assoc r.fs k).getD 0 = F at *
  obtain ⟨fb0, fb1⟩ := hn
  clear hD hFD hNN hFF hN
  clear hfl hlen
  rcases hcase with ⟨ea, hl⟩ | ⟨i, ea⟩
  · rw [ea] at H; clear ea
    rcases hf with ⟨hf1, rfl⟩ | ⟨hf1, rfl⟩
    · rcases hdue with ⟨hx, hw, rfl⟩ | ⟨hx, hw, rfl⟩
      · go_enter Try.func43, Try.ntmps43
        go_wp2_with fail
        refine H.mono ?_
        rintro e w1 ⟨rfl, hb⟩
        have hR1 := HR.out.keep (Keeps.of_below (F := fun _ => False) hb) (by simp)
        have hx1 := (hb.block _ (heap_lt HX.out)).trans HX.out
        obtain ⟨b0, j0⟩ := cells_of_block hx1 0 _ rfl
        obtain ⟨b1, j1⟩ := cells_of_block hx1 1 _ rfl
        simp only [List.getElem_toArray, List.getElem_cons_zero, List.getElem_cons_succ] at b0 b1
        have HX1 := Lib.hid hx1
        have HR1 := Lib.hid hR1
        have HK1 := Lib.hid (HK.out.trans (Keeps.of_below hb))
        obtain ⟨ao, cap, c0⟩ := hR1.len
        clear hb hR1 H hx1
        go_wp2_with fail
        refine (HF.out w1 HR1.out).mono ?_
        rintro e w2 ⟨rfl, hb2⟩
        have hR2 := HR1.out.keep (Keeps.of_below (F := fun _ => False) hb2) (by simp)
        have hx2 := (hb2.block _ (heap_lt HX1.out)).trans HX1.out
        have HX2 := Lib.hid hx2
        have HR2 := Lib.hid hR2
        have HK2 := Lib.hid (HK1.out.trans (Keeps.of_below hb2))
        clear b0 b1 j0 j1 c0
        obtain ⟨b0, j0⟩ := cells_of_block hx2 0 _ rfl
        obtain ⟨b1, j1⟩ := cells_of_block hx2 1 _ rfl
        simp only [List.getElem_toArray, List.getElem_cons_zero, List.getElem_cons_succ] at b0 b1
        clear hb2 hR2 hx2
        go_wp2_with fail
        refine (HS.out w2 HR2.out).mono ?_
        rintro e w3 ⟨rfl, R3, h3, k3, n3⟩
        have hx3 := (k3.block _ (heap_lt HX2.out) HMX.out).trans HX2.out
        have HR3 := Lib.hid h3
        have HX3 := Lib.hid hx3
        have HK3 := Lib.hid (HK2.out.trans k3)
        have HN3 := Lib.hid ((RLoc.Next.refl R w).trans n3 HK2.out.size)
        have hrq : R3.rq = R.rq := n3.rq
        clear b0 b1 j0 j1
        obtain ⟨b0, j0⟩ := cells_of_block hx3 0 _ rfl
        obtain ⟨b1, j1⟩ := cells_of_block hx3 1 _ rfl
        simp only [List.getElem_toArray, List.getElem_cons_zero, List.getElem_cons_succ] at b0 b1
        clear h3 k3 n3 hx3
        go_wp2_with fail
        refine (HD.out w3).mono ?_
        rintro e w4 ⟨rfl, rfl⟩
        go_wp2_with fail
        rw [← hrq]
        refine (HP.out w3 R3 HR3.out).mono ?_
        rintro e w5 ⟨rfl, R5, h5, k5, n5⟩
        have HR5 := Lib.hid h5
        have HK5 := Lib.hid (HK3.out.step k5 (fun i hi hm h3 => (HN3.out.own i h3).elim hm (fun h => absurd hi (by omega))))
        have HN5 := Lib.hid (HN3.out.trans n5 HK3.out.size)
        clear h5 k5 n5
        go_wp2
        go_ret
        exact ⟨rfl, R5, HR5.out, HK5.out, HN5.out⟩
      · go_enter Try.func43, Try.ntmps43
        go_wp2_with fail
        refine H.mono ?_
        rintro e w1 ⟨rfl, hb⟩
        have hR1 := HR.out.keep (Keeps.of_below (F := fun _ => False) hb) (by simp)
        have hx1 := (hb.block _ (heap_lt HX.out)).trans HX.out
        obtain ⟨b0, j0⟩ := cells_of_block hx1 0 _ rfl
        obtain ⟨b1, j1⟩ := cells_of_block hx1 1 _ rfl
        simp only [List.getElem_toArray, List.getElem_cons_zero, List.getElem_cons_succ] at b0 b1
        have HX1 := Lib.hid hx1
        have HR1 := Lib.hid hR1
        have HK1 := Lib.hid (HK.out.trans (Keeps.of_below hb))
        obtain ⟨ao, cap, c0⟩ := hR1.len
        clear hb hR1 H hx1
        go_wp2_with fail
        refine (HF.out w1 HR1.out).mono ?_
        rintro e w2 ⟨rfl, hb2⟩
        have hR2 := HR1.out.keep (Keeps.of_below (F := fun _ => False) hb2) (by simp)
        have hx2 := (hb2.block _ (heap_lt HX1.out)).trans HX1.out
        have HX2 := Lib.hid hx2
        have HR2 := Lib.hid hR2
        have HK2 := Lib.hid (HK1.out.trans (Keeps.of_below hb2))
        clear b0 b1 j0 j1 c0
        obtain ⟨b0, j0⟩ := cells_of_block hx2 0 _ rfl
        obtain ⟨b1, j1⟩ := cells_of_block hx2 1 _ rfl
        simp only [List.getElem_toArray, List.getElem_cons_zero, List.getElem_cons_succ] at b0 b1
        clear hb2 hR2 hx2
        go_wp2_with fail
        refine (HS.out w2 HR2.out).mono ?_
        rintro e w3 ⟨rfl, R3, h3, k3, n3⟩
        have hx3 := (k3.block _ (heap_lt HX2.out) HMX.out).trans HX2.out
        have HR3 := Lib.hid h3
        have HX3 := Lib.hid hx3
        have HK3 := Lib.hid (HK2.out.trans k3)
        have HN3 := Lib.hid ((RLoc.Next.refl R w).trans n3 HK2.out.size)
        have hrq : R3.rq = R.rq := n3.rq
        clear b0 b1 j0 j1
        obtain ⟨b0, j0⟩ := cells_of_block hx3 0 _ rfl
        obtain ⟨b1, j1⟩ := cells_of_block hx3 1 _ rfl
        simp only [List.getElem_toArray, List.getElem_cons_zero, List.getElem_cons_succ] at b0 b1
        clear h3 k3 n3 hx3
        go_wp2_with fail
        refine (HD.out w3).mono ?_
        rintro e w4 ⟨rfl, rfl⟩
        go_wp2_with fail
        rw [← hrq]
        refine (HP.out w3 R3 HR3.out).mono ?_
        rintro e w5 ⟨rfl, R5, h5, k5, n5⟩
        have HR5 := Lib.hid h5
        have HK5 := Lib.hid (HK3.out.step k5 (fun i hi hm h3 => (HN3.out.own i h3).elim hm (fun h => absurd hi (by omega))))
        have HN5 := Lib.hid (HN3.out.trans n5 HK3.out.size)
        clear h5 k5 n5
        go_wp2
        go_ret
        exact ⟨rfl, R5, HR5.out, HK5.out, HN5.out⟩
    · rcases hdue with ⟨hx, hw, rfl⟩ | ⟨hx, hw, rfl⟩
      · go_enter Try.func43, Try.ntmps43
        go_wp2_with fail
        refine H.mono ?_
        rintro e w1 ⟨rfl, hb⟩
        have hR1 := HR.out.keep (Keeps.of_below (F := fun _ => False) hb) (by simp)
        have hx1 := (hb.block _ (heap_lt HX.out)).trans HX.out
        obtain ⟨b0, j0⟩ := cells_of_block hx1 0 _ rfl
        obtain ⟨b1, j1⟩ := cells_of_block hx1 1 _ rfl
        simp only [List.getElem_toArray, List.getElem_cons_zero, List.getElem_cons_succ] at b0 b1
        have HX1 := Lib.hid hx1
        have HR1 := Lib.hid hR1
        have HK1 := Lib.hid (HK.out.trans (Keeps.of_below hb))
        obtain ⟨ao, cap, c0⟩ := hR1.len
        clear hb hR1 H hx1
        go_wp2_with fail
        refine (HF.out w1 HR1.out).mono ?_
        rintro e w2 ⟨rfl, hb2⟩
        have hR2 := HR1.out.keep (Keeps.of_below (F := fun _ => False) hb2) (by simp)
        have hx2 := (hb2.block _ (heap_lt HX1.out)).trans HX1.out
        have HX2 := Lib.hid hx2
        have HR2 := Lib.hid hR2
        have HK2 := Lib.hid (HK1.out.trans (Keeps.of_below hb2))
        clear b0 b1 j0 j1 c0
        obtain ⟨b0, j0⟩ := cells_of_block hx2 0 _ rfl
        obtain ⟨b1, j1⟩ := cells_of_block hx2 1 _ rfl
        simp only [List.getElem_toArray, List.getElem_cons_zero, List.getElem_cons_succ] at b0 b1
        clear hb2 hR2 hx2
        go_wp2_with fail
        refine (HS.out w2 HR2.out).mono ?_
        rintro e w3 ⟨rfl, R3, h3, k3, n3⟩
        have hx3 := (k3.block _ (heap_lt HX2.out) HMX.out).trans HX2.out
        have HR3 := Lib.hid h3
        have HX3 := Lib.hid hx3
        have HK3 := Lib.hid (HK2.out.trans k3)
        have HN3 := Lib.hid ((RLoc.Next.refl R w).trans n3 HK2.out.size)
        have hrq : R3.rq = R.rq := n3.rq
        clear b0 b1 j0 j1
        obtain ⟨b0, j0⟩ := cells_of_block hx3 0 _ rfl
        obtain ⟨b1, j1⟩ := cells_of_block hx3 1 _ rfl
        simp only [List.getElem_toArray, List.getElem_cons_zero, List.getElem_cons_succ] at b0 b1
        clear h3 k3 n3 hx3
        go_wp2_with fail
        refine (HD.out w3).mono ?_
        rintro e w4 ⟨rfl, rfl⟩
        go_wp2_with fail
        rw [← hrq]
        refine (HP.out w3 R3 HR3.out).mono ?_
        rintro e w5 ⟨rfl, R5, h5, k5, n5⟩
        have HR5 := Lib.hid h5
        have HK5 := Lib.hid (HK3.out.step k5 (fun i hi hm h3 => (HN3.out.own i h3).elim hm (fun h => absurd hi (by omega))))
        have HN5 := Lib.hid (HN3.out.trans n5 HK3.out.size)
        clear h5 k5 n5
        go_wp2
        go_ret
        exact ⟨rfl, R5, HR5.out, HK5.out, HN5.out⟩
      · go_enter Try.func43, Try.ntmps43
        go_wp2_with fail
        refine H.mono ?_
        rintro e w1 ⟨rfl, hb⟩
        have hR1 := HR.out.keep (Keeps.of_below (F := fun _ => False) hb) (by simp)
        have hx1 := (hb.block _ (heap_lt HX.out)).trans HX.out
        obtain ⟨b0, j0⟩ := cells_of_block hx1 0 _ rfl
        obtain ⟨b1, j1⟩ := cells_of_block hx1 1 _ rfl
        simp only [List.getElem_toArray, List.getElem_cons_zero, List.getElem_cons_succ] at b0 b1
        have HX1 := Lib.hid hx1
        have HR1 := Lib.hid hR1
        have HK1 := Lib.hid (HK.out.trans (Keeps.of_below hb))
        obtain ⟨ao, cap, c0⟩ := hR1.len
        clear hb hR1 H hx1
        go_wp2_with fail
        refine (HF.out w1 HR1.out).mono ?_
        rintro e w2 ⟨rfl, hb2⟩
        have hR2 := HR1.out.keep (Keeps.of_below (F := fun _ => False) hb2) (by simp)
        have hx2 := (hb2.block _ (heap_lt HX1.out)).trans HX1.out
        have HX2 := Lib.hid hx2
        have HR2 := Lib.hid hR2
        have HK2 := Lib.hid (HK1.out.trans (Keeps.of_below hb2))
        clear b0 b1 j0 j1 c0
        obtain ⟨b0, j0⟩ := cells_of_block hx2 0 _ rfl
        obtain ⟨b1, j1⟩ := cells_of_block hx2 1 _ rfl
        simp only [List.getElem_toArray, List.getElem_cons_zero, List.getElem_cons_succ] at b0 b1
        clear hb2 hR2 hx2
        go_wp2_with fail
        refine (HS.out w2 HR2.out).mono ?_
        rintro e w3 ⟨rfl, R3, h3, k3, n3⟩
        have hx3 := (k3.block _ (heap_lt HX2.out) HMX.out).trans HX2.out
        have HR3 := Lib.hid h3
        have HX3 := Lib.hid hx3
        have HK3 := Lib.hid (HK2.out.trans k3)
        have HN3 := Lib.hid ((RLoc.Next.refl R w).trans n3 HK2.out.size)
        have hrq : R3.rq = R.rq := n3.rq
        clear b0 b1 j0 j1
        obtain ⟨b0, j0⟩ := cells_of_block hx3 0 _ rfl
        obtain ⟨b1, j1⟩ := cells_of_block hx3 1 _ rfl
        simp only [List.getElem_toArray, List.getElem_cons_zero, List.getElem_cons_succ] at b0 b1
        clear h3 k3 n3 hx3
        go_wp2_with fail
        refine (HD.out w3).mono ?_
        rintro e w4 ⟨rfl, rfl⟩
        go_wp2_with fail
        rw [← hrq]
        refine (HP.out w3 R3 HR3.out).mono ?_
        rintro e w5 ⟨rfl, R5, h5, k5, n5⟩
        have HR5 := Lib.hid h5
        have HK5 := Lib.hid (HK3.out.step k5 (fun i hi hm h3 => (HN3.out.own i h3).elim hm (fun h => absurd hi (by omega))))
        have HN5 := Lib.hid (HN3.out.trans n5 HK3.out.size)
        clear h5 k5 n5
        go_wp2
        go_ret
        exact ⟨rfl, R5, HR5.out, HK5.out, HN5.out⟩
  · rw [ea] at H; have hi0 : ¬ (i : Int) < 0 := by omega
    clear ea
    rcases hf with ⟨hf1, rfl⟩ | ⟨hf1, rfl⟩
    · rcases hdue with ⟨hx, hw, rfl⟩ | ⟨hx, hw, rfl⟩
      · go_enter Try.func43, Try.ntmps43
        go_wp2_with fail
        refine H.mono ?_
        rintro e w1 ⟨rfl, hb⟩
        have hR1 := HR.out.keep (Keeps.of_below (F := fun _ => False) hb) (by simp)
        have hx1 := (hb.block _ (heap_lt HX.out)).trans HX.out
        obtain ⟨b0, j0⟩ := cells_of_block hx1 0 _ rfl
        obtain ⟨b1, j1⟩ := cells_of_block hx1 1 _ rfl
        simp only [List.getElem_toArray, List.getElem_cons_zero, List.getElem_cons_succ] at b0 b1
        have HX1 := Lib.hid hx1
        have HR1 := Lib.hid hR1
        have HK1 := Lib.hid (HK.out.trans (Keeps.of_below hb))
        obtain ⟨ao, cap, c0⟩ := hR1.len
        clear hb hR1 H hx1
        go_wp2_with fail
        refine (HF.out w1 HR1.out).mono ?_
        rintro e w2 ⟨rfl, hb2⟩
        have hR2 := HR1.out.keep (Keeps.of_below (F := fun _ => False) hb2) (by simp)
        have hx2 := (hb2.block _ (heap_lt HX1.out)).trans HX1.out
        have HX2 := Lib.hid hx2
        have HR2 := Lib.hid hR2
        have HK2 := Lib.hid (HK1.out.trans (Keeps.of_below hb2))
        clear b0 b1 j0 j1 c0
        obtain ⟨b0, j0⟩ := cells_of_block hx2 0 _ rfl
        obtain ⟨b1, j1⟩ := cells_of_block hx2 1 _ rfl
        simp only [List.getElem_toArray, List.getElem_cons_zero, List.getElem_cons_succ] at b0 b1
        clear hb2 hR2 hx2
        go_wp2_with fail
        refine (HS.out w2 HR2.out).mono ?_
        rintro e w3 ⟨rfl, R3, h3, k3, n3⟩
        have hx3 := (k3.block _ (heap_lt HX2.out) HMX.out).trans HX2.out
        have HR3 := Lib.hid h3
        have HX3 := Lib.hid hx3
        have HK3 := Lib.hid (HK2.out.trans k3)
        have HN3 := Lib.hid ((RLoc.Next.refl R w).trans n3 HK2.out.size)
        have hrq : R3.rq = R.rq := n3.rq
        clear b0 b1 j0 j1
        obtain ⟨b0, j0⟩ := cells_of_block hx3 0 _ rfl
        obtain ⟨b1, j1⟩ := cells_of_block hx3 1 _ rfl
        simp only [List.getElem_toArray, List.getElem_cons_zero, List.getElem_cons_succ] at b0 b1
        clear h3 k3 n3 hx3
        go_wp2_with fail
        refine (HD.out w3).mono ?_
        rintro e w4 ⟨rfl, rfl⟩
        go_wp2_with fail
        rw [← hrq]
        refine (HP.out w3 R3 HR3.out).mono ?_
        rintro e w5 ⟨rfl, R5, h5, k5, n5⟩
        have HR5 := Lib.hid h5
        have HK5 := Lib.hid (HK3.out.step k5 (fun i hi hm h3 => (HN3.out.own i h3).elim hm (fun h => absurd hi (by omega))))
        have HN5 := Lib.hid (HN3.out.trans n5 HK3.out.size)
        clear h5 k5 n5
        go_wp2
        go_ret
        exact ⟨rfl, R5, HR5.out, HK5.out, HN5.out⟩
      · go_enter Try.func43, Try.ntmps43
        go_wp2_with fail
        refine H.mono ?_
        rintro e w1 ⟨rfl, hb⟩
        have hR1 := HR.out.keep (Keeps.of_below (F := fun _ => False) hb) (by simp)
        have hx1 := (hb.block _ (heap_lt HX.out)).trans HX.out
        obtain ⟨b0, j0⟩ := cells_of_block hx1 0 _ rfl
        obtain ⟨b1, j1⟩ := cells_of_block hx1 1 _ rfl
        simp only [List.getElem_toArray, List.getElem_cons_zero, List.getElem_cons_succ] at b0 b1
        have HX1 := Lib.hid hx1
        have HR1 := Lib.hid hR1
        have HK1 := Lib.hid (HK.out.trans (Keeps.of_below hb))
        obtain ⟨ao, cap, c0⟩ := hR1.len
        clear hb hR1 H hx1
        go_wp2_with fail
        refine (HF.out w1 HR1.out).mono ?_
        rintro e w2 ⟨rfl, hb2⟩
        have hR2 := HR1.out.keep (Keeps.of_below (F := fun _ => False) hb2) (by simp)
        have hx2 := (hb2.block _ (heap_lt HX1.out)).trans HX1.out
        have HX2 := Lib.hid hx2
        have HR2 := Lib.hid hR2
        have HK2 := Lib.hid (HK1.out.trans (Keeps.of_below hb2))
        clear b0 b1 j0 j1 c0
        obtain ⟨b0, j0⟩ := cells_of_block hx2 0 _ rfl
        obtain ⟨b1, j1⟩ := cells_of_block hx2 1 _ rfl
        simp only [List.getElem_toArray, List.getElem_cons_zero, List.getElem_cons_succ] at b0 b1
        clear hb2 hR2 hx2
        go_wp2_with fail
        refine (HS.out w2 HR2.out).mono ?_
        rintro e w3 ⟨rfl, R3, h3, k3, n3⟩
        have hx3 := (k3.block _ (heap_lt HX2.out) HMX.out).trans HX2.out
        have HR3 := Lib.hid h3
        have HX3 := Lib.hid hx3
        have HK3 := Lib.hid (HK2.out.trans k3)
        have HN3 := Lib.hid ((RLoc.Next.refl R w).trans n3 HK2.out.size)
        have hrq : R3.rq = R.rq := n3.rq
        clear b0 b1 j0 j1
        obtain ⟨b0, j0⟩ := cells_of_block hx3 0 _ rfl
        obtain ⟨b1, j1⟩ := cells_of_block hx3 1 _ rfl
        simp only [List.getElem_toArray, List.getElem_cons_zero, List.getElem_cons_succ] at b0 b1
        clear h3 k3 n3 hx3
        go_wp2_with fail
        refine (HD.out w3).mono ?_
        rintro e w4 ⟨rfl, rfl⟩
        go_wp2_with fail
        rw [← hrq]
        refine (HP.out w3 R3 HR3.out).mono ?_
        rintro e w5 ⟨rfl, R5, h5, k5, n5⟩
        have HR5 := Lib.hid h5
        have HK5 := Lib.hid (HK3.out.step k5 (fun i hi hm h3 => (HN3.out.own i h3).elim hm (fun h => absurd hi (by omega))))
        have HN5 := Lib.hid (HN3.out.trans n5 HK3.out.size)
        clear h5 k5 n5
        go_wp2
        go_ret
        exact ⟨rfl, R5, HR5.out, HK5.out, HN5.out⟩
    · rcases hdue with ⟨hx, hw, rfl⟩ | ⟨hx, hw, rfl⟩
      · go_enter Try.func43, Try.ntmps43
        go_wp2_with fail
        refine H.mono ?_
        rintro e w1 ⟨rfl, hb⟩
        have hR1 := HR.out.keep (Keeps.of_below (F := fun _ => False) hb) (by simp)
        have hx1 := (hb.block _ (heap_lt HX.out)).trans HX.out
        obtain ⟨b0, j0⟩ := cells_of_block hx1 0 _ rfl
        obtain ⟨b1, j1⟩ := cells_of_block hx1 1 _ rfl
        simp only [List.getElem_toArray, List.getElem_cons_zero, List.getElem_cons_succ] at b0 b1
        have HX1 := Lib.hid hx1
        have HR1 := Lib.hid hR1
        have HK1 := Lib.hid (HK.out.trans (Keeps.of_below hb))
        obtain ⟨ao, cap, c0⟩ := hR1.len
        clear hb hR1 H hx1
        go_wp2_with fail
        refine (HF.out w1 HR1.out).mono ?_
        rintro e w2 ⟨rfl, hb2⟩
        have hR2 := HR1.out.keep (Keeps.of_below (F := fun _ => False) hb2) (by simp)
        have hx2 := (hb2.block _ (heap_lt HX1.out)).trans HX1.out
        have HX2 := Lib.hid hx2
        have HR2 := Lib.hid hR2
        have HK2 := Lib.hid (HK1.out.trans (Keeps.of_below hb2))
        clear b0 b1 j0 j1 c0
        obtain ⟨b0, j0⟩ := cells_of_block hx2 0 _ rfl
        obtain ⟨b1, j1⟩ := cells_of_block hx2 1 _ rfl
        simp only [List.getElem_toArray, List.getElem_cons_zero, List.getElem_cons_succ] at b0 b1
        clear hb2 hR2 hx2
        go_wp2_with fail
        refine (HS.out w2 HR2.out).mono ?_
        rintro e w3 ⟨rfl, R3, h3, k3, n3⟩
        have hx3 := (k3.block _ (heap_lt HX2.out) HMX.out).trans HX2.out
        have HR3 := Lib.hid h3
        have HX3 := Lib.hid hx3
        have HK3 := Lib.hid (HK2.out.trans k3)
        have HN3 := Lib.hid ((RLoc.Next.refl R w).trans n3 HK2.out.size)
        have hrq : R3.rq = R.rq := n3.rq
        clear b0 b1 j0 j1
        obtain ⟨b0, j0⟩ := cells_of_block hx3 0 _ rfl
        obtain ⟨b1, j1⟩ := cells_of_block hx3 1 _ rfl
        simp only [List.getElem_toArray, List.getElem_cons_zero, List.getElem_cons_succ] at b0 b1
        clear h3 k3 n3 hx3
        go_wp2_with fail
        refine (HD.out w3).mono ?_
        rintro e w4 ⟨rfl, rfl⟩
        go_wp2_with fail
        rw [← hrq]
        refine (HP.out w3 R3 HR3.out).mono ?_
        rintro e w5 ⟨rfl, R5, h5, k5, n5⟩
        have HR5 := Lib.hid h5
        have HK5 := Lib.hid (HK3.out.step k5 (fun i hi hm h3 => (HN3.out.own i h3).elim hm (fun h => absurd hi (by omega))))
        have HN5 := Lib.hid (HN3.out.trans n5 HK3.out.size)
        clear h5 k5 n5
        go_wp2
        go_ret
        exact ⟨rfl, R5, HR5.out, HK5.out, HN5.out⟩
      · go_enter Try.func43, Try.ntmps43
        go_wp2_with fail
        refine H.mono ?_
        rintro e w1 ⟨rfl, hb⟩
        have hR1 := HR.out.keep (Keeps.of_below (F := fun _ => False) hb) (by simp)
        have hx1 := (hb.block _ (heap_lt HX.out)).trans HX.out
        obtain ⟨b0, j0⟩ := cells_of_block hx1 0 _ rfl
        obtain ⟨b1, j1⟩ := cells_of_block hx1 1 _ rfl
        simp only [List.getElem_toArray, List.getElem_cons_zero, List.getElem_cons_succ] at b0 b1
        have HX1 := Lib.hid hx1
        have HR1 := Lib.hid hR1
        have HK1 := Lib.hid (HK.out.trans (Keeps.of_below hb))
        obtain ⟨ao, cap, c0⟩ := hR1.len
        clear hb hR1 H hx1
        go_wp2_with fail
        refine (HF.out w1 HR1.out).mono ?_
        rintro e w2 ⟨rfl, hb2⟩
        have hR2 := HR1.out.keep (Keeps.of_below (F := fun _ => False) hb2) (by simp)
        have hx2 := (hb2.block _ (heap_lt HX1.out)).trans HX1.out
        have HX2 := Lib.hid hx2
        have HR2 := Lib.hid hR2
        have HK2 := Lib.hid (HK1.out.trans (Keeps.of_below hb2))
        clear b0 b1 j0 j1 c0
        obtain ⟨b0, j0⟩ := cells_of_block hx2 0 _ rfl
        obtain ⟨b1, j1⟩ := cells_of_block hx2 1 _ rfl
        simp only [List.getElem_toArray, List.getElem_cons_zero, List.getElem_cons_succ] at b0 b1
        clear hb2 hR2 hx2
        go_wp2_with fail
        refine (HS.out w2 HR2.out).mono ?_
        rintro e w3 ⟨rfl, R3, h3, k3, n3⟩
        have hx3 := (k3.block _ (heap_lt HX2.out) HMX.out).trans HX2.out
        have HR3 := Lib.hid h3
        have HX3 := Lib.hid hx3
        have HK3 := Lib.hid (HK2.out.trans k3)
        have HN3 := Lib.hid ((RLoc.Next.refl R w).trans n3 HK2.out.size)
        have hrq : R3.rq = R.rq := n3.rq
        clear b0 b1 j0 j1
        obtain ⟨b0, j0⟩ := cells_of_block hx3 0 _ rfl
        obtain ⟨b1, j1⟩ := cells_of_block hx3 1 _ rfl
        simp only [List.getElem_toArray, List.getElem_cons_zero, List.getElem_cons_succ] at b0 b1
        clear h3 k3 n3 hx3
        go_wp2_with fail
        refine (HD.out w3).mono ?_
        rintro e w4 ⟨rfl, rfl⟩
        go_wp2_with fail
        rw [← hrq]
        refine (HP.out w3 R3 HR3.out).mono ?_
        rintro e w5 ⟨rfl, R5, h5, k5, n5⟩
        have HR5 := Lib.hid h5
        have HK5 := Lib.hid (HK3.out.step k5 (fun i hi hm h3 => (HN3.out.own i h3).elim hm (fun h => absurd hi (by omega))))
        have HN5 := Lib.hid (HN3.out.trans n5 HK3.out.size)
        clear h5 k5 n5
        go_wp2
        go_ret
        exact ⟨rfl, R5, HR5.out, HK5.out, HN5.out⟩
end Go.Proofs.Ytemeedfldapcjaa
