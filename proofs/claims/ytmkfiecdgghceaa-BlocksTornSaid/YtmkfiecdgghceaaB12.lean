/- Layer 5 (blocks): a log's Append, where there is room. -/
import Derived.Test.YtmkfiecdgghceaaB11
namespace Go.Proofs.Ytmkfiecdgghceaa
open Go.RowKit
set_option linter.unusedVariables false
set_option linter.unusedSimpArgs false

open Go.Shelf
attribute [local go_sem] Oper.semAt_some

theorem wpList_buildBlk {ops : Array Oper} {rest : List Oper} {o : Oper} {a : Act} {w : World} {Q : Exit → Act → World → Prop} (hgd : o.guard = none) (x : Operand) (ho : o.op = .buildSlice 56 1 #[(0, x)]) (X : Bs) (hX : X.length = 64) (hx : a.eval x = .agg (cellsU X).toArray)
    (h : wpList Try.prog ops Q rest (a.put o.dst (.slice (some ⟨w.heap.size, 0, none⟩) 1 1)) (w.alloc (.cells (cellsU X).toArray 64))) : wpList Try.prog ops Q (o :: rest) a w :=
  wpList_plain hgd fun K hK => by
    have hr := run_buildBlk (w := w) X hX
    unfold Oper.wp
    simp [execOp, ho, hx, hr, Result.andThen]
    exact hK _ _ h

/-- between two blocks of a record that is written -/
structure Wr (w : World) (B p : Nat) (v : Value) (m j : Nat) (bs R L : Bs) (last most D g3 T c3 : Nat) (W0 wr : World) (u : Value) : Prop where
  log : LogAt wr B p u (m + j) (bs ++ R.take (64 * j)) last most
  own : ∀ k, u.ownBlock = some k → v.ownBlock = some k ∨ w.heap.size ≤ k
  src : OwnB wr W0.heap.size (.slice (some ⟨g3, 0, none⟩) T c3) L
  keep : Keeps (fun i => i = p ∨ v.ownBlock = some i) w wr
  mark : wr.heap[D]? = some (.deferred (some []))
theorem Wr.cell {w : World} {B p : Nat} {v : Value} {m j : Nat} {bs R L : Bs} {last most D g3 T c3 : Nat} {W0 wr : World} {u : Value} (h : Wr w B p v m j bs R L last most D g3 T c3 W0 wr u) (hT : T = L.length) :
    ∀ k (hk : k < L.length), wr.cell? ⟨g3, k, none⟩ = some (.int .u8 (L[k].toNat : Int)) := fun k hk => by
  subst hT
  rw [World.ownsRow.cellAt h.src k (by omega), cellsU_get L k hk]

theorem blk_recd (l : Bs) (k : Nat) (h1 : 1 ≤ l.length) (h2 : l.length ≤ 1024) (j : Nat) (hj : 64 * j < (laid l k).length) : (recd l k).take (64 * (j + 1)) = (recd l k).take (64 * j) ++ blk ((laid l k).drop (64 * j)) := by
  have hl := recd_length k h1 h2
  have hn := needN_of h1 h2
  have hll := laid_length l k
  rw [show 64 * (j + 1) = 64 * j + 64 by omega, List.take_add]
  congr 1
  unfold blk recd
  rw [List.drop_append_of_le_length (by omega), List.take_append, List.length_drop, hll]
  congr 1
  rw [List.take_replicate]
  congr 1
  omega

theorem Wr.step {w : World} {B p : Nat} {v : Value} {m j : Nat} {bs R L X : Bs} {last most D g3 T c3 : Nat} {W0 wr W2 W3 : World} {u u2 : Value} (h : Wr w B p v m j bs R L last most D g3 T c3 W0 wr u) (hp : p < w.heap.size)
    (h2 : Below wr.heap.size wr W2) (h3 : OwnL W3 B u2 (m + j + 1) (bs ++ R.take (64 * j) ++ X)) (hg : W2.grownBy W3 u.ownBlock) (hu : ∀ k, u2.ownBlock = some k → u.ownBlock = some k ∨ W2.heap.size ≤ k) (hX : R.take (64 * (j + 1)) = R.take (64 * j) ++ X) (hj : m + j + 1 ≤ most) (hD : w.heap.size ≤ D) :
    Wr w B p v m (j + 1) bs R L last most D g3 T c3 W0 (W3.setCell ⟨p, 0, none⟩ u2) u2 := by
  have hpw := h.log.lt.1
  have e1 : ∀ k, k < wr.heap.size → u.ownBlock ≠ some k → W3.heap[k]? = wr.heap[k]? := fun k hk hne => (hg.block k (Nat.lt_of_lt_of_le hk h2.size) (fun e => hne e.symm)).trans (h2.block k hk)
  have ep := e1 p hpw h.log.ne
  have hc := ep.trans h.log.cells
  have hu2 : u2.ownBlock ≠ some p := by
    intro e
    obtain ⟨_, _, ⟨rfl, _⟩ | ⟨g, cap, cur, rfl, _, hg', _⟩⟩ := h3
    · simp [Value.ownBlock] at e
    · simp [Value.ownBlock] at e
      subst e
      rw [hc] at hg'
      simp at hg'
  have hlog : LogAt (W3.setCell ⟨p, 0, none⟩ u2) B p u2 (m + (j + 1)) (bs ++ R.take (64 * (j + 1))) last most :=
    ⟨by rw [heap_setCell_same hc]; rfl, ⟨by rw [hX, ← List.append_assoc]; exact h3.1, by rw [hX, ← List.append_assoc]; exact ownsRow_of_heap h3.2 fun k hk => heap_setCell_ne fun e => hu2 (by rw [hk]; exact congrArg some e)⟩, h.log.base, by have := h.log.hl; omega, by omega, h.log.hm⟩
  have hg3 : u.ownBlock ≠ some g3 := by
    intro e
    obtain ⟨_, _, ⟨rfl, _⟩ | ⟨g, cap, cur, rfl, _, hg', _⟩⟩ := h.log.row
    · simp [Value.ownBlock] at e
    · simp [Value.ownBlock] at e
      subst e
      obtain ⟨_, ⟨hv, _⟩ | ⟨g, cap, cur, hv, _, hg2, _⟩⟩ := h.src
      · cases hv
      · simp only [Value.slice.injEq, Option.some.injEq, Addr.mk.injEq, and_true] at hv
        rw [← hv.1] at hg2
        rw [hg2] at hg'
        simp at hg'
  have hg3p : g3 ≠ p := by
    intro e
    obtain ⟨_, ⟨hv, _⟩ | ⟨g, cap, cur, hv, _, hg2, _⟩⟩ := h.src
    · cases hv
    · simp only [Value.slice.injEq, Option.some.injEq, Addr.mk.injEq, and_true] at hv
      rw [← hv.1, e, h.log.cells] at hg2
      simp at hg2
  refine ⟨hlog, fun k hk => ?_, ownsRow_of_heap h.src fun k hk => ?_, ?_, ?_⟩
  · rcases hu k hk with h4 | h4
    · exact h.own k h4
    · exact .inr (Nat.le_trans (Nat.le_trans h.keep.size h2.size) h4)
  · simp only [Value.ownBlock, Option.some.injEq] at hk
    subst hk
    have hlt := (h.src.lt g3 rfl).2
    exact (heap_setCell_ne hg3p).trans (e1 g3 hlt hg3)
  · have k1 : Keeps (fun i => i = p ∨ v.ownBlock = some i) w W3 := h.keep.step (G := fun i => u.ownBlock = some i) ⟨hg.os.trans h2.os, hg.tape.trans h2.tape, hg.output.trans h2.output, Nat.le_trans h2.size hg.size, fun k hk hf => e1 k hk hf⟩
      (fun i hi hf e => by
        rcases h.own i e with h4 | h4
        · exact hf (.inr h4)
        · omega)
    exact k1.setCell (p := ⟨p, 0, none⟩) (fun _ => .inl rfl) _
  · have hDp : D ≠ p := by omega
    have hDu : u.ownBlock ≠ some D := by
      intro e
      obtain ⟨_, _, ⟨rfl, _⟩ | ⟨g, cap, cur, rfl, _, hg', _⟩⟩ := h.log.row
      · simp [Value.ownBlock] at e
      · simp [Value.ownBlock] at e
        subst e
        rw [h.mark] at hg'
        cases hg'
    exact (heap_setCell_ne hDp).trans ((e1 D (heap_lt h.mark) hDu).trans h.mark)

set_option maxRecDepth 100000 in
set_option maxHeartbeats 4000000 in
theorem append_any (w : World) (B p : Nat) (v : Value) (m : Nat) (bs : Bs) (last most : Nat) (rs : List Bs) (h : LogAt w B p v m bs last most) (hrs : Parsed bs rs) (l : Bs) (b o c : Nat) (h1 : 1 ≤ l.length) (h2 : l.length ≤ 1024) (hlc : l.length ≤ c) (hcm : c ≤ maxLen)
    (hsrc : ∀ k (hk : k < l.length), w.cell? ⟨b, o + k, none⟩ = some (.int .u8 (l[k].toNat : Int))) (hroom : needN l.length ≤ most - m) :
    Calls Try.prog 17 #[.pointer (some ⟨p, 0, none⟩), .slice (some ⟨b, o, none⟩) l.length c] w (AppendPost w B p v (m + needN l.length) (bs ++ recd l (rs.length + 1)) last most) := by
  have HZ := Lib.hid (need_nat l.length)
  have H := Lib.hid h
  have HRS := Lib.hid hrs
  have HSrc := Lib.hid hsrc
  have hm := h.hm
  have hn := h.hn
  have hbl := Lib.hid h.row.1
  obtain ⟨av, cv, rfl⟩ := h.lv
  obtain ⟨N, hN⟩ : ∃ N, N = needN l.length := ⟨_, rfl⟩
  have hN1 := needN_of h1 h2
  rw [← hN] at hroom hN1
  have e0 : ((N : Int) == 0) = false := by simp; omega
  have e1 : ¬ (most : Int) - (m : Int) < (N : Int) := by omega
  have e2 : decide ((most : Int) - (m : Int) < (N : Int)) = false := by simp; omega
  have HN := Lib.hid hN
  have HN1 := Lib.hid hN1
  rw [← hN]
  clear h hN hN1 hrs hsrc
  refine calls_of_wp_marks Try.func17 rfl ?_
  simp only [Try.ntmps17, List.size_toArray, List.length_cons, List.length_nil, Nat.reduceAdd, Nat.reduceSub, Array.replicate_succ, Array.replicate_zero, List.push_toArray, List.append_toArray, List.nil_append, List.cons_append]
  go_wp2_with (first | (go_at_call 14; refine (need_any _ _).mono ?_; rintro e w' ⟨rfl, hw⟩; obtain rfl := hw.symm; rw [HZ.out, ← HN.out]) | (go_at_call 24; refine (free_any _ _ _ _ _ _ _ _ H.out).mono ?_; rintro e w1 ⟨rfl, hbl⟩; have HB := Lib.hid hbl; clear hbl) | (go_at_call 31; refine (records_any _ _ ⟨_, rfl⟩).mono ?_; rintro e w' ⟨rfl, rfl⟩))
  refine wp_range_all (gf := 43) (lb := #[.pointer (some ⟨w1.heap.size + 1, 0, none⟩)]) rfl (enters_of Try.func43 (by kernel_rfl) rfl) 5000 encR (fun _ => rfl) AtR (AllR bs) (Keeps (fun i => ¬ (i < w1.heap.size ∨ i = w1.heap.size + 1)))
    (fun x W l o o' h hl ho => atR_putObj h hl ho) (fun h k => h.trans k) (fun W l o o' hl h ho => ⟨rfl, rfl, rfl, by simp, fun k hk hf => World.putObj_heap_other (by simp at hl; have := Classical.not_not.1 hf; omega)⟩)
    (fun pre W => W.heap[w1.heap.size]? = some (.cells #[.int .i64 ((pre.length : Int) + 1)] 3 (0, 0)) ∧ Below w1.heap.size w1 W)
    (fun pre W W' hI hb => ⟨(hb.block _ (heap_lt hI.1)).trans hI.1, hI.2.trans (hb.mono hI.2.size)⟩)
    (fun pre W l o o' hl hI h ho => ⟨(World.putObj_heap_other (by simp at hl; omega)).trans hI.1, below_putObj hI.2 (by simp at hl; omega)⟩)
    ⟨(heap_alloc_lt (by simp)).trans heap_alloc_eq, ((Below.refl _ w1).alloc (Nat.le_refl _) _).alloc (by simp) _⟩ ?seq ?a1 ?assign ?body ?done
  case assign =>
    intro l x W K hK
    dsimp only [encR]
    gi_wp2
    exact hK
  case seq =>
    intro l J W hW hWs hJ hY h0
    have hW0 : Below w1.heap.size w1 W := (((Below.refl _ w1).alloc (Nat.le_refl _) _).alloc (by simp) _).trans (hW.mono (by simp; omega))
    have hL1 := H.out.below HB.out
    exact rec1_any B p (.slice av m cv) m bs last most (w1.heap.size + 1) l W (hL1.below hW0) ((hW.block _ (by simp)).trans (by have := heap_alloc_eq (w := w1.alloc (.cells #[.int .i64 1] 3)) (o := .cells #[.pointer (some ⟨p, 0, none⟩)] 31); simpa using this)) _ (.inl hL1.lt.1) (.inr rfl) (fun k hk => .inl (hL1.lt.2 k hk).2) J hJ hY h0
  case body =>
    rintro l pre x W hWs ⟨hc, hb⟩ hat hN
    obtain ⟨c0, f0⟩ := cells_of_block hc 0 (.int .i64 ((pre.length : Int) + 1)) rfl
    have hz : w1.heap.size < W.heap.size := heap_lt hc
    gi_wp2
    refine ⟨KeepsOthers.setCell _ _ _, ⟨rfl, rfl, rfl, by simp [World.setCell], fun k hk hf => heap_setCell_ne (fun e => by have := Classical.not_not.1 hf; simp at e; omega)⟩, ?_, hb.setCell (p := ⟨w1.heap.size, 0, none⟩) (Nat.le_refl _) _⟩
    rw [heap_setCell_same hc]
    simp
  case done =>
    rintro D xs W hD ⟨hP, _⟩ ⟨hc, hb⟩ hK
    have hds : xs.map (·.d) = rs := parsed_unique hP HRS.out
    have hxl : xs.length = rs.length := by rw [← hds]; simp
    rw [hxl] at hc
    obtain ⟨c0, f0⟩ := cells_of_block hc 0 (.int .i64 ((rs.length : Int) + 1)) rfl
    have hrl : rs.length ≤ 4096 := by
      obtain ⟨g, rest, e, _⟩ := HRS.out
      have h1 := count_le g 0
      have h2 : (encs rs 0).length ≤ bs.length := by rw [e]; simp
      have := hbl.out
      omega
    have hwW : Below w.heap.size w W := HB.out.trans (hb.mono HB.out.size)
    have HWW := Lib.hid hwW
    have HL := Lib.hid (H.out.below hwW)
    have HSW := Lib.hid (show ∀ k (hk : k < l.length), W.cell? ⟨b, o + k, none⟩ = some (.int .u8 (l[k].toNat : Int)) from fun k hk => (hwW.cell (p := ⟨b, o + k, none⟩) (World.block_lt_of_cell? w _ (HSrc.out k hk))).trans (HSrc.out k hk))
    have HD := Lib.hid hD
    have HK := Lib.hid hK
    have HB1 := Lib.hid hb
    clear hds hxl hc hb hK hP hD hwW
    go_wp2_with (go_at_call 32; refine (lay_n l l.length rfl (rs.length + 1) _ (by omega) b o c _ h1 h2 hlc hcm (by omega) HSW.out).mono ?_; rintro e w3 ⟨v3, rfl, ho3, hb3⟩; have HO3 := Lib.hid ho3; have HB3 := Lib.hid hb3; clear ho3 hb3)
    have hT := laid_length l (rs.length + 1)
    obtain ⟨g3, c3, rfl, hc3, hc3m⟩ : ∃ g3 c3, v3 = .slice (some ⟨g3, 0, none⟩) (8 + l.length) c3 ∧ 8 + l.length ≤ c3 ∧ c3 ≤ maxLen := by
      obtain ⟨_, ⟨_, hn0⟩ | ⟨g, cap, cur, hv, _, _, e1, e2, _⟩⟩ := HO3.out
      · omega
      · rw [hT] at hv e1
        exact ⟨g, cap, hv, e1, e2⟩
    have hD2 : w1.heap.size + 2 ≤ D := by have := HD.out; simpa using this
    have hwD : w.heap.size ≤ D := by have := HB.out.size; omega
    have HWR := Lib.hid (show Wr w B p (.slice av m cv) m 0 bs (recd l (rs.length + 1)) (laid l (rs.length + 1)) last most D g3 (8 + l.length) c3 W w3 (.slice av m cv) from
      ⟨by simpa using HL.out.below HB3.out, fun k hk => .inl hk, by have := HO3.out; simp only [OwnB, hT] at this ⊢; exact this, Keeps.of_below ⟨HB3.out.os.trans HWW.out.os, HB3.out.tape.trans HWW.out.tape, HB3.out.output.trans HWW.out.output, Nat.le_trans HWW.out.size HB3.out.size, fun k hk => (HB3.out.block k (Nat.lt_of_lt_of_le hk HWW.out.size)).trans (HWW.out.block k hk)⟩, (HB3.out.block D (heap_lt HK.out)).trans HK.out⟩)
    have HT := Lib.hid hT
    have hpw := H.out.lt.1
    have hBp := H.out.base
    clear HO3 hT
    go_loopw [7] (fun s7 wr => ∃ (j f cc : Nat) (u : Value), s7 = .slice (some ⟨g3, f, none⟩) (8 + l.length - 64 * j) cc ∧ j ≤ N ∧ (64 * j < 8 + l.length → f = 64 * j) ∧ 8 + l.length - 64 * j ≤ cc ∧ cc ≤ maxLen ∧ Hid (Wr w B p (.slice av m cv) m j bs (recd l (rs.length + 1)) (laid l (rs.length + 1)) last most D g3 (8 + l.length) c3 W wr u)) (fun s7 _ => lenV s7)
    case atStart => exact ⟨0, 0, c3, _, by simp, Nat.zero_le _, fun _ => rfl, by omega, hc3m, HWR⟩
    case round =>
      obtain ⟨j, f, cc, u, rfl, hjN, hf, hcc, hccm, HW⟩ := hrel
      by_cases hlt : 64 * j < 8 + l.length
      · obtain rfl := hf hlt
        obtain ⟨au, cu, rfl⟩ := HW.out.log.lv
        have hjN2 : j < N := by have := HN1.out; omega
        have HR0 := Lib.hid (show 8 + l.length - 64 * j = ((laid l (rs.length + 1)).drop (64 * j)).length by rw [List.length_drop, HT.out])
        have HS0 := Lib.hid (show ∀ k (hk : k < ((laid l (rs.length + 1)).drop (64 * j)).length), wr.cell? ⟨g3, 64 * j + k, none⟩ = some (.int .u8 (((laid l (rs.length + 1)).drop (64 * j))[k].toNat : Int)) from fun k hk => by
          rw [List.length_drop] at hk
          rw [List.getElem_drop]
          exact HW.out.cell HT.out.symm _ (by omega))
        have HX := Lib.hid (blk_recd l (rs.length + 1) h1 h2 j (by rw [HT.out]; exact hlt))
        obtain ⟨q, hq⟩ : ∃ q, q = min (8 + l.length - 64 * j) 64 := ⟨_, rfl⟩
        have HQ := Lib.hid hq
        have hq1 : q ≤ 8 + l.length - 64 * j := by omega
        have hq3 : q ≤ 64 := by omega
        have hq2 : 8 + l.length - 64 * j - q = 8 + l.length - 64 * (j + 1) := by omega
        have HQ2 := Lib.hid hq2
        have hq0 : 0 < q := by omega
        have hlt0 : 0 < 8 + l.length - 64 * j := by omega
        have hg3 : g3 < wr.heap.size := (HW.out.src.lt g3 rfl).2
        generalize hRd : (laid l (rs.length + 1)).drop (64 * j) = R0 at *
        clear hf hq hq2 hRd
        by_cases hcq : cc = q
        · have hfin : ¬ 64 * (j + 1) < 8 + l.length := by omega
          go_wp2_with (refine wpList_copyBlk rfl _ _ rfl wr.heap.size g3 (64 * j) cc R0 _ q HR0.out HQ.out rfl rfl _ heap_alloc_eq (by kernel_rfl) (fun k hk => (Below.cell ((Below.refl wr.heap.size wr).alloc (Nat.le_refl _) _) hg3).trans (HS0.out k hk)) ?_)
          intro W2 hx2 hk2
          have hz2 : wr.heap.size < W2.heap.size := heap_lt hx2
          have hb2 : Below wr.heap.size wr W2 := by
            have hz := hk2.size
            exact ⟨hk2.os, hk2.tape, hk2.output, by simp at hz; omega, fun k hk => (hk2.block k (by simp; omega) (fun e => by omega)).trans (heap_alloc_lt hk)⟩
          have hcp := (hb2.block p HW.out.log.lt.1).trans HW.out.log.cells
          have hpz : p ≠ wr.heap.size := by have := HW.out.log.lt.1; omega
          have hpl : p < W2.heap.size := heap_lt hcp
          obtain ⟨k4, f4⟩ := cells_of_block hcp 0 (.slice au (m + j) cu) rfl
          have k4a : ∀ o, (W2.alloc o).cell? ⟨p, 0, none⟩ = some (.slice au (m + j) cu) := fun o => (Below.cell ((Below.refl W2.heap.size W2).alloc (Nat.le_refl _) o) hpl).trans k4
          have HX2 := Lib.hid hx2
          have HB2 := Lib.hid hb2
          have HCP := Lib.hid hcp
          have hX2a : ∀ o, (W2.alloc o).heap[wr.heap.size]? = some (.cells (cellsU (blk R0)).toArray 64 (0, 0)) := fun o => (heap_alloc_lt hz2).trans hx2
          have HX2A := Lib.hid hX2a
          have HLR := Lib.hid (show OwnL (W2.alloc (.cells (cellsU (blk R0)).toArray 64)) B (.slice au (m + j) cu) (m + j) (bs ++ (recd l (rs.length + 1)).take (64 * j)) from (HW.out.log.below (hb2.trans (((Below.refl W2.heap.size W2).alloc (Nat.le_refl _) _).mono hb2.size))).row)
          have HBC := Lib.hid (show ∀ k (hk : k < (blk R0).length), (W2.alloc (.cells (cellsU (blk R0)).toArray 64)).drew.cell? ⟨W2.heap.size, 0 + k, none⟩ = some (.int .u8 ((blk R0)[k].toNat : Int)) from fun k hk => by
            rw [Nat.zero_add]
            show (match (W2.alloc (.cells (cellsU (blk R0)).toArray 64)).heap[W2.heap.size]? with | some (.cells c _ _) => c[k]? | _ => none) = _
            rw [heap_alloc_eq]
            simpa using cellsU_get (blk R0) k hk)
          have HNo := Lib.hid (show (Value.slice au (m + j) cu).ownBlock ≠ some wr.heap.size from fun e => by have := (HW.out.log.lt.2 _ e).2; omega)
          have HNp := Lib.hid HW.out.log.ne
          have HZ2 := Lib.hid hz2
          clear hx2 hk2 hb2 hcp hX2a
          go_wp2
          refine wp_region_tree (fun w' => (w'.heap[wr.heap.size]? = some (.cells (cellsU (blk R0)).toArray 64 (0, 0)))) (.t 0 (.t 1 (.t 2 (.t 3 (.t 5 (.f 4 (.a 6 (.a 7 (.t 8 (.t 9 (.a 10 .nil))))) 6 (.a 4 (.a 7 (.t 8 (.t 9 (.a 10 .nil))))))))))) (by kernel_rfl) (by kernel_rfl) (by kernel_rfl) ?_ ?_
          · exact (by first | exact HX2.out | exact HX2A.out _ | exact HX3.out | exact (heap_setCell_ne (fun e => hpz e.symm)).trans HX3.out)
          apply wpT_takeK rfl _ (by first | rfl | (simp [Region.wanted, yielded]; done))
          · intro w' hS
            have s0 := hS
            clear hS
            go_simp
            try rfl
          intro K hK
          go_simp
          refine hK _ ?_
          clear hK K
          apply wpT_takeK rfl _ (by first | rfl | (simp [Region.wanted, yielded]; done))
          · intro w' hS
            have s0 := hS
            clear hS
            go_simp
            try rfl
          intro K hK
          go_simp
          refine hK _ ?_
          clear hK K
          apply wpT_takeK rfl _ (by first | rfl | (simp [Region.wanted, yielded]; done))
          · intro w' hS
            have s0 := hS
            clear hS
            go_simp
            try rfl
          intro K hK
          go_simp
          refine hK _ ?_
          clear hK K
          apply wpT_takeK rfl _ (by first | rfl | (simp [Region.wanted, yielded]; done))
          · intro w' hS
            have s0 := hS
            clear hS
            go_simp
            try rfl
          intro K hK
          go_simp
          refine hK _ ?_
          clear hK K
          refine wpT_takeK rfl (.agg (cellsU (blk R0)).toArray) (by first | rfl | (simp [Region.wanted, yielded]; done)) ?_ ?_
          · intro w' hS
            have s0 := hS
            exact exec_loadBlk (blk R0) (blk_length _) rfl rfl (fun k hk => by rw [Nat.zero_add]; simp only [World.cell?, s0]; simpa using cellsU_get (blk R0) k hk)
          intro K hK
          go_simp
          refine hK _ ?_
          clear hK K
          refine wpT_fork rfl rfl ?_ ?_
          focus go_wp2
          refine QS_normal (by first | exact HX2.out | exact HX2A.out _ | exact HX3.out | exact (heap_setCell_ne (fun e => hpz e.symm)).trans HX3.out) (fun _ => ?_)
          refine wpT_alone rfl ?_
          focus ((try simp only [List.getElem_toArray, List.getElem_cons_succ, List.getElem_cons_zero]); refine wpList_buildBlk rfl _ rfl (blk R0) (blk_length _) rfl ?_; go_wp2)
          refine QS_normal (by first | exact HX2.out | exact HX2A.out _ | exact HX3.out | exact (heap_setCell_ne (fun e => hpz e.symm)).trans HX3.out) (fun _ => ?_)
          refine wpT_alone rfl ?_
          focus ((try simp only [List.getElem_toArray, List.getElem_cons_succ, List.getElem_cons_zero]); refine wpList_app_blocks rfl _ _ rfl B (.slice au (m + j) cu) (m + j) _ rfl HLR.out _ 1 (blk R0) rfl ⟨blk_length _, .inr ⟨_, 0, 1, rfl, Nat.le_refl _, by unfold maxLen; omega, fun k hk => HBC.out k hk⟩⟩ (by omega) (by simp; omega) ?_; intro u2 W3 ho3 hgr hnw; obtain ⟨a2, c2, rfl⟩ := ho3.lv; have HX3 := Lib.hid ((hgr.block wr.heap.size (by simp; have := HZ2.out; omega) (fun e => HNo.out e.symm)).trans (HX2A.out _)); obtain ⟨k3, f3⟩ := cells_of_block ((hgr.block p (by simp; omega) (fun e => HNp.out e.symm)).trans ((heap_alloc_lt hpl).trans HCP.out)) 0 (.slice au (m + j) cu) rfl; have HO3 := Lib.hid ho3; have HGR := Lib.hid hgr; have HNW := Lib.hid hnw; clear ho3 hgr hnw; go_wp2)
          refine QS_normal (by first | exact HX2.out | exact HX2A.out _ | exact HX3.out | exact (heap_setCell_ne (fun e => hpz e.symm)).trans HX3.out) (fun _ => ?_)
          apply wpT_takeK rfl _ (by first | rfl | (simp [Region.wanted, yielded]; done))
          · intro w' hS
            have s0 := hS
            clear hS
            go_simp
            try rfl
          intro K hK
          go_simp
          refine hK _ ?_
          clear hK K
          apply wpT_takeK rfl _ (by first | rfl | (simp [Region.wanted, yielded]; done))
          · intro w' hS
            have s0 := hS
            clear hS
            go_simp
            try rfl
          intro K hK
          go_simp
          refine hK _ ?_
          clear hK K
          refine wpT_alone rfl ?_
          focus go_wp2
          refine QS_normal (by first | exact HX2.out | exact HX2A.out _ | exact HX3.out | exact (heap_setCell_ne (fun e => hpz e.symm)).trans HX3.out) (fun _ => ?_)
          refine wpT_end ?_
          rotate_left
          focus ((try simp only [List.getElem_toArray, List.getElem_cons_succ, List.getElem_cons_zero]); refine wpList_buildBlk rfl _ rfl (blk R0) (blk_length _) rfl ?_; go_wp2)
          refine QS_normal (by first | exact HX2.out | exact HX2A.out _ | exact HX3.out | exact (heap_setCell_ne (fun e => hpz e.symm)).trans HX3.out) (fun _ => ?_)
          refine wpT_alone rfl ?_
          focus go_wp2
          refine QS_normal (by first | exact HX2.out | exact HX2A.out _ | exact HX3.out | exact (heap_setCell_ne (fun e => hpz e.symm)).trans HX3.out) (fun _ => ?_)
          refine wpT_alone rfl ?_
          focus ((try simp only [List.getElem_toArray, List.getElem_cons_succ, List.getElem_cons_zero]); refine wpList_app_blocks rfl _ _ rfl B (.slice au (m + j) cu) (m + j) _ rfl HLR.out _ 1 (blk R0) rfl ⟨blk_length _, .inr ⟨_, 0, 1, rfl, Nat.le_refl _, by unfold maxLen; omega, fun k hk => HBC.out k hk⟩⟩ (by omega) (by simp; omega) ?_; intro u2 W3 ho3 hgr hnw; obtain ⟨a2, c2, rfl⟩ := ho3.lv; have HX3 := Lib.hid ((hgr.block wr.heap.size (by simp; have := HZ2.out; omega) (fun e => HNo.out e.symm)).trans (HX2A.out _)); obtain ⟨k3, f3⟩ := cells_of_block ((hgr.block p (by simp; omega) (fun e => HNp.out e.symm)).trans ((heap_alloc_lt hpl).trans HCP.out)) 0 (.slice au (m + j) cu) rfl; have HO3 := Lib.hid ho3; have HGR := Lib.hid hgr; have HNW := Lib.hid hnw; clear ho3 hgr hnw; go_wp2)
          refine QS_normal (by first | exact HX2.out | exact HX2A.out _ | exact HX3.out | exact (heap_setCell_ne (fun e => hpz e.symm)).trans HX3.out) (fun _ => ?_)
          apply wpT_takeK rfl _ (by first | rfl | (simp [Region.wanted, yielded]; done))
          · intro w' hS
            have s0 := hS
            clear hS
            go_simp
            try rfl
          intro K hK
          go_simp
          refine hK _ ?_
          clear hK K
          apply wpT_takeK rfl _ (by first | rfl | (simp [Region.wanted, yielded]; done))
          · intro w' hS
            have s0 := hS
            clear hS
            go_simp
            try rfl
          intro K hK
          go_simp
          refine hK _ ?_
          clear hK K
          refine wpT_alone rfl ?_
          focus go_wp2
          refine QS_normal (by first | exact HX2.out | exact HX2A.out _ | exact HX3.out | exact (heap_setCell_ne (fun e => hpz e.symm)).trans HX3.out) (fun _ => ?_)
          refine wpT_end ?_
          rotate_left
          all_goals
            have HST := Lib.hid (HW.out.step hpw (HB2.out.trans (((Below.refl W2.heap.size W2).alloc (Nat.le_refl _) (.cells (cellsU (blk R0)).toArray 64)).mono HB2.out.size)).drew HO3.out HGR.out HNW.out HX.out (by omega) hwD)
            go_wp2
            go_roundw
            case rel => exact ⟨j + 1, _, _, _, by rw [HQ2.out], by omega, fun hl => absurd hl hfin, by have := HQ2.out; omega, by omega, HST⟩
            case measure => simp [lenV]; omega
        · have hcap : q ≤ cc := by omega
          go_wp2_with (refine wpList_copyBlk rfl _ _ rfl wr.heap.size g3 (64 * j) cc R0 _ q HR0.out HQ.out rfl rfl _ heap_alloc_eq (by kernel_rfl) (fun k hk => (Below.cell ((Below.refl wr.heap.size wr).alloc (Nat.le_refl _) _) hg3).trans (HS0.out k hk)) ?_)
          intro W2 hx2 hk2
          have hz2 : wr.heap.size < W2.heap.size := heap_lt hx2
          have hb2 : Below wr.heap.size wr W2 := by
            have hz := hk2.size
            exact ⟨hk2.os, hk2.tape, hk2.output, by simp at hz; omega, fun k hk => (hk2.block k (by simp; omega) (fun e => by omega)).trans (heap_alloc_lt hk)⟩
          have hcp := (hb2.block p HW.out.log.lt.1).trans HW.out.log.cells
          have hpz : p ≠ wr.heap.size := by have := HW.out.log.lt.1; omega
          have hpl : p < W2.heap.size := heap_lt hcp
          obtain ⟨k4, f4⟩ := cells_of_block hcp 0 (.slice au (m + j) cu) rfl
          have k4a : ∀ o, (W2.alloc o).cell? ⟨p, 0, none⟩ = some (.slice au (m + j) cu) := fun o => (Below.cell ((Below.refl W2.heap.size W2).alloc (Nat.le_refl _) o) hpl).trans k4
          have HX2 := Lib.hid hx2
          have HB2 := Lib.hid hb2
          have HCP := Lib.hid hcp
          have hX2a : ∀ o, (W2.alloc o).heap[wr.heap.size]? = some (.cells (cellsU (blk R0)).toArray 64 (0, 0)) := fun o => (heap_alloc_lt hz2).trans hx2
          have HX2A := Lib.hid hX2a
          have HLR := Lib.hid (show OwnL (W2.alloc (.cells (cellsU (blk R0)).toArray 64)) B (.slice au (m + j) cu) (m + j) (bs ++ (recd l (rs.length + 1)).take (64 * j)) from (HW.out.log.below (hb2.trans (((Below.refl W2.heap.size W2).alloc (Nat.le_refl _) _).mono hb2.size))).row)
          have HBC := Lib.hid (show ∀ k (hk : k < (blk R0).length), (W2.alloc (.cells (cellsU (blk R0)).toArray 64)).drew.cell? ⟨W2.heap.size, 0 + k, none⟩ = some (.int .u8 ((blk R0)[k].toNat : Int)) from fun k hk => by
            rw [Nat.zero_add]
            show (match (W2.alloc (.cells (cellsU (blk R0)).toArray 64)).heap[W2.heap.size]? with | some (.cells c _ _) => c[k]? | _ => none) = _
            rw [heap_alloc_eq]
            simpa using cellsU_get (blk R0) k hk)
          have HNo := Lib.hid (show (Value.slice au (m + j) cu).ownBlock ≠ some wr.heap.size from fun e => by have := (HW.out.log.lt.2 _ e).2; omega)
          have HNp := Lib.hid HW.out.log.ne
          have HZ2 := Lib.hid hz2
          clear hx2 hk2 hb2 hcp hX2a
          go_wp2
          refine wp_region_tree (fun w' => (w'.heap[wr.heap.size]? = some (.cells (cellsU (blk R0)).toArray 64 (0, 0)))) (.t 0 (.t 1 (.t 2 (.t 3 (.t 5 (.f 4 (.a 6 (.a 7 (.t 8 (.t 9 (.a 10 .nil))))) 6 (.a 4 (.a 7 (.t 8 (.t 9 (.a 10 .nil))))))))))) (by kernel_rfl) (by kernel_rfl) (by kernel_rfl) ?_ ?_
          · exact (by first | exact HX2.out | exact HX2A.out _ | exact HX3.out | exact (heap_setCell_ne (fun e => hpz e.symm)).trans HX3.out)
          apply wpT_takeK rfl _ (by first | rfl | (simp [Region.wanted, yielded]; done))
          · intro w' hS
            have s0 := hS
            clear hS
            go_simp
            try rfl
          intro K hK
          go_simp
          refine hK _ ?_
          clear hK K
          apply wpT_takeK rfl _ (by first | rfl | (simp [Region.wanted, yielded]; done))
          · intro w' hS
            have s0 := hS
            clear hS
            go_simp
            try rfl
          intro K hK
          go_simp
          refine hK _ ?_
          clear hK K
          apply wpT_takeK rfl _ (by first | rfl | (simp [Region.wanted, yielded]; done))
          · intro w' hS
            have s0 := hS
            clear hS
            go_simp
            try rfl
          intro K hK
          go_simp
          refine hK _ ?_
          clear hK K
          apply wpT_takeK rfl _ (by first | rfl | (simp [Region.wanted, yielded]; done))
          · intro w' hS
            have s0 := hS
            clear hS
            go_simp
            try rfl
          intro K hK
          go_simp
          refine hK _ ?_
          clear hK K
          refine wpT_takeK rfl (.agg (cellsU (blk R0)).toArray) (by first | rfl | (simp [Region.wanted, yielded]; done)) ?_ ?_
          · intro w' hS
            have s0 := hS
            exact exec_loadBlk (blk R0) (blk_length _) rfl rfl (fun k hk => by rw [Nat.zero_add]; simp only [World.cell?, s0]; simpa using cellsU_get (blk R0) k hk)
          intro K hK
          go_simp
          refine hK _ ?_
          clear hK K
          refine wpT_fork rfl rfl ?_ ?_
          focus go_wp2
          refine QS_normal (by first | exact HX2.out | exact HX2A.out _ | exact HX3.out | exact (heap_setCell_ne (fun e => hpz e.symm)).trans HX3.out) (fun _ => ?_)
          refine wpT_alone rfl ?_
          focus ((try simp only [List.getElem_toArray, List.getElem_cons_succ, List.getElem_cons_zero]); refine wpList_buildBlk rfl _ rfl (blk R0) (blk_length _) rfl ?_; go_wp2)
          refine QS_normal (by first | exact HX2.out | exact HX2A.out _ | exact HX3.out | exact (heap_setCell_ne (fun e => hpz e.symm)).trans HX3.out) (fun _ => ?_)
          refine wpT_alone rfl ?_
          focus ((try simp only [List.getElem_toArray, List.getElem_cons_succ, List.getElem_cons_zero]); refine wpList_app_blocks rfl _ _ rfl B (.slice au (m + j) cu) (m + j) _ rfl HLR.out _ 1 (blk R0) rfl ⟨blk_length _, .inr ⟨_, 0, 1, rfl, Nat.le_refl _, by unfold maxLen; omega, fun k hk => HBC.out k hk⟩⟩ (by omega) (by simp; omega) ?_; intro u2 W3 ho3 hgr hnw; obtain ⟨a2, c2, rfl⟩ := ho3.lv; have HX3 := Lib.hid ((hgr.block wr.heap.size (by simp; have := HZ2.out; omega) (fun e => HNo.out e.symm)).trans (HX2A.out _)); obtain ⟨k3, f3⟩ := cells_of_block ((hgr.block p (by simp; omega) (fun e => HNp.out e.symm)).trans ((heap_alloc_lt hpl).trans HCP.out)) 0 (.slice au (m + j) cu) rfl; have HO3 := Lib.hid ho3; have HGR := Lib.hid hgr; have HNW := Lib.hid hnw; clear ho3 hgr hnw; go_wp2)
          refine QS_normal (by first | exact HX2.out | exact HX2A.out _ | exact HX3.out | exact (heap_setCell_ne (fun e => hpz e.symm)).trans HX3.out) (fun _ => ?_)
          apply wpT_takeK rfl _ (by first | rfl | (simp [Region.wanted, yielded]; done))
          · intro w' hS
            have s0 := hS
            clear hS
            go_simp
            try rfl
          intro K hK
          go_simp
          refine hK _ ?_
          clear hK K
          apply wpT_takeK rfl _ (by first | rfl | (simp [Region.wanted, yielded]; done))
          · intro w' hS
            have s0 := hS
            clear hS
            go_simp
            try rfl
          intro K hK
          go_simp
          refine hK _ ?_
          clear hK K
          refine wpT_alone rfl ?_
          focus go_wp2
          refine QS_normal (by first | exact HX2.out | exact HX2A.out _ | exact HX3.out | exact (heap_setCell_ne (fun e => hpz e.symm)).trans HX3.out) (fun _ => ?_)
          refine wpT_end ?_
          rotate_left
          focus ((try simp only [List.getElem_toArray, List.getElem_cons_succ, List.getElem_cons_zero]); refine wpList_buildBlk rfl _ rfl (blk R0) (blk_length _) rfl ?_; go_wp2)
          refine QS_normal (by first | exact HX2.out | exact HX2A.out _ | exact HX3.out | exact (heap_setCell_ne (fun e => hpz e.symm)).trans HX3.out) (fun _ => ?_)
          refine wpT_alone rfl ?_
          focus go_wp2
          refine QS_normal (by first | exact HX2.out | exact HX2A.out _ | exact HX3.out | exact (heap_setCell_ne (fun e => hpz e.symm)).trans HX3.out) (fun _ => ?_)
          refine wpT_alone rfl ?_
          focus ((try simp only [List.getElem_toArray, List.getElem_cons_succ, List.getElem_cons_zero]); refine wpList_app_blocks rfl _ _ rfl B (.slice au (m + j) cu) (m + j) _ rfl HLR.out _ 1 (blk R0) rfl ⟨blk_length _, .inr ⟨_, 0, 1, rfl, Nat.le_refl _, by unfold maxLen; omega, fun k hk => HBC.out k hk⟩⟩ (by omega) (by simp; omega) ?_; intro u2 W3 ho3 hgr hnw; obtain ⟨a2, c2, rfl⟩ := ho3.lv; have HX3 := Lib.hid ((hgr.block wr.heap.size (by simp; have := HZ2.out; omega) (fun e => HNo.out e.symm)).trans (HX2A.out _)); obtain ⟨k3, f3⟩ := cells_of_block ((hgr.block p (by simp; omega) (fun e => HNp.out e.symm)).trans ((heap_alloc_lt hpl).trans HCP.out)) 0 (.slice au (m + j) cu) rfl; have HO3 := Lib.hid ho3; have HGR := Lib.hid hgr; have HNW := Lib.hid hnw; clear ho3 hgr hnw; go_wp2)
          refine QS_normal (by first | exact HX2.out | exact HX2A.out _ | exact HX3.out | exact (heap_setCell_ne (fun e => hpz e.symm)).trans HX3.out) (fun _ => ?_)
          apply wpT_takeK rfl _ (by first | rfl | (simp [Region.wanted, yielded]; done))
          · intro w' hS
            have s0 := hS
            clear hS
            go_simp
            try rfl
          intro K hK
          go_simp
          refine hK _ ?_
          clear hK K
          apply wpT_takeK rfl _ (by first | rfl | (simp [Region.wanted, yielded]; done))
          · intro w' hS
            have s0 := hS
            clear hS
            go_simp
            try rfl
          intro K hK
          go_simp
          refine hK _ ?_
          clear hK K
          refine wpT_alone rfl ?_
          focus go_wp2
          refine QS_normal (by first | exact HX2.out | exact HX2A.out _ | exact HX3.out | exact (heap_setCell_ne (fun e => hpz e.symm)).trans HX3.out) (fun _ => ?_)
          refine wpT_end ?_
          rotate_left
          all_goals
            have HST := Lib.hid (HW.out.step hpw (HB2.out.trans (((Below.refl W2.heap.size W2).alloc (Nat.le_refl _) (.cells (cellsU (blk R0)).toArray 64)).mono HB2.out.size)).drew HO3.out HGR.out HNW.out HX.out (by omega) hwD)
            go_wp2
            go_roundw
            case rel => exact ⟨j + 1, _, _, _, by rw [HQ2.out], by omega, fun hl => by have := HQ.out; omega, by have := HQ2.out; omega, by omega, HST⟩
            case measure => simp [lenV]; omega
      · have hjN3 : j = N := by have := HN1.out; omega
        have hlen0 : 8 + l.length - 64 * j = 0 := by omega
        have hRl : (recd l (rs.length + 1)).take (64 * j) = recd l (rs.length + 1) := by
          rw [List.take_of_length_le]
          rw [recd_length _ h1 h2, ← HN.out]; omega
        have HRl := Lib.hid hRl
        have HJ := Lib.hid hjN3
        rw [hlen0]
        clear hRl hjN3 hf hlen0
        go_wp2
        have hpD : p ≠ D := by omega
        have huD : u.ownBlock ≠ some D := by
          intro e
          obtain ⟨_, _, ⟨rfl, _⟩ | ⟨g, cap, cur, rfl, _, hg', _⟩⟩ := HW.out.log.row
          · simp [Value.ownBlock] at e
          · simp [Value.ownBlock] at e
            subst e
            rw [HW.out.mark] at hg'
            cases hg'
        refine marks_ret rfl HW.out.mark (fun w => results_tmp rfl _ _ _) ⟨rfl, u, ?_, HW.out.own, ?_⟩
        · have := HW.out.log.kept (w' := wr.putObj D (.deferred none)) fun i hi => World.putObj_heap_other fun e => by
            subst e
            rcases hi with hi | hi
            · exact hpD hi.symm
            · exact huD hi
          rw [HRl.out, HJ.out] at this
          exact this
        · have k2 := HW.out.keep
          exact ⟨k2.os, k2.tape, k2.output, by simpa using k2.size, fun k hk hf => (World.putObj_heap_other (by omega)).trans (k2.block k hk hf)⟩

end Go.Proofs.Ytmkfiecdgghceaa
