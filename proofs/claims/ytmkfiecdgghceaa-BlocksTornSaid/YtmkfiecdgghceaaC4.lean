/- Layer 5 (blocks): which records of the document's log are whole. -/
import Derived.Test.YtmkfiecdgghceaaC3
import Derived.Test.YtmkfiecdgghceaaB8
import Derived.OwnWalk
namespace Go.Proofs.Ytmkfiecdgghceaa
open Go.RowKit
set_option linter.unusedVariables false
set_option linter.unusedSimpArgs false

theorem exec_text {o : Oper} {a : Act} {w : World} {x : Operand} {v : Value} {l : Bs} (hop : o.op = .convert 22 9 x) (hx : a.eval x = v) (h : IsB w v l) : (execOp a.eval o).run Try.prog w = .ok (.value (.string ⟨l.toArray⟩)) w := by
  have := run_text h
  simp [execOp, hop, hx, this, Result.andThen]
theorem wpList_text {ops : Array Oper} {Q : Exit → Act → World → Prop} {o : Oper} {rest : List Oper} {a : Act} {w : World} (hg : o.guard = none) (x : Operand) (hop : o.op = .convert 22 9 x) (v : Value) (hx : a.eval x = v) (l : Bs) (h : IsB w v l)
    (hK : wpList Try.prog ops Q rest (a.put o.dst (.string ⟨l.toArray⟩)) w) : wpList Try.prog ops Q (o :: rest) a w :=
  wpList_plain hg fun K hK' => by
    unfold Oper.wp
    rw [exec_text hop hx h]
    exact hK' _ _ hK
theorem exec_neqText {o : Oper} {a : Act} {w : World} {x y : Tmp} {l m : Bs} (hop : o.op = .binOp .neq 9 (.tmp x) (.tmp y) 9) (hx : a.tmps[x]?.getD undef = .string ⟨l.toArray⟩) (hy : a.tmps[y]?.getD undef = .string ⟨m.toArray⟩) : (execOp a.eval o).run Try.prog w = .ok (.value (.bool (!decide (l = m)))) w := by
  have e : ((⟨l.toArray⟩ : ByteArray) == ⟨m.toArray⟩) = decide (l = m) := by
    rw [beq_toListBytes, ByteArray.toList_eq, ByteArray.toList_eq, Bool.eq_iff_iff]
    simp
  simp [execOp, hop, hx, hy, go_sem, Result.andThen, e]
  rw [Bool.eq_iff_iff]
  simp
theorem needRN_any (n : Nat) (w : World) : Calls Try.prog 15 #[.int .i64 n] w fun e w' => e = .returned (.int .i64 (needN n : Nat)) ∧ w' = w :=
  (needR_any n w).mono fun e w' h => ⟨by rw [h.1, need_nat], h.2⟩

/-- between two rounds: rs have come, up to block at -/
structure MidR (bs : Bs) (n : Nat) (rs : List Bs) (at' : Nat) : Prop where
  good : Good rs
  eq : bs = encs rs 0 ++ bs.drop (at' * 64)
  len : (encs rs 0).length = at' * 64
  le : at' ≤ n
theorem MidR.done {bs : Bs} {n : Nat} {rs : List Bs} {at' : Nat} (h : MidR bs n rs at') (hs : scan (bs.drop (at' * 64)) (rs.length + 1) = none) : Parsed bs rs := ⟨h.good, _, h.eq, hs⟩
theorem MidR.step {bs : Bs} {n : Nat} {rs : List Bs} {at' : Nat} (h : MidR bs n rs at') (hl : bs.length = n * 64) {d : Bs} (hs : scan (bs.drop (at' * 64)) (rs.length + 1) = some d) : MidR bs n (rs ++ [d]) (at' + needN d.length) := by
  obtain ⟨h1, h2, rest, hr⟩ := scan_some hs
  have hlen := recd_length (rs.length + 1) h1 h2
  have el : encs (rs ++ [d]) 0 = encs rs 0 ++ recd d (rs.length + 1) := by rw [encs_append]; simp [encs]
  have h0 := h.len
  refine ⟨?_, ?_, ?_, ?_⟩
  · intro r hr; rcases List.mem_append.1 hr with hr | hr
    · exact h.good r hr
    · simp at hr; subst hr; exact ⟨h1, h2⟩
  · have hb := h.eq
    have hdr : bs.drop ((at' + needN d.length) * 64) = rest := by
      rw [Nat.add_mul, ← List.drop_drop, hr, ← hlen]; simp
    rw [hdr, el, List.append_assoc, ← hr]; exact hb
  · rw [el, List.length_append, h0, hlen]; omega
  · have : (bs.drop (at' * 64)).length = (recd d (rs.length + 1) ++ rest).length := by rw [hr]
    rw [List.length_drop, hl, List.length_append, hlen] at this
    have := needN_of h1 h2
    have := h.le
    omega

def WholePost (w : World) (rs : List Bs) (e : Ending) (w' : World) : Prop := ∃ u, e = .returned (.tuple #[u, .int .i64 ((encs rs 0).length : Nat)]) ∧ OwnRows w' w.heap.size u rs ∧ Below w.heap.size w w'
theorem whole_ret {w wr : World} {rs : List Bs} {at' : Nat} {u : Value} {fn : Func} {a : Act} {t s : Tmp} (h1 : fn.results = #[.tmp t, .tmp s]) (h2 : a.tmps.getD t undef = u) (h3 : a.tmps.getD s undef = .int .i64 ((at' * 64 : Nat) : Int)) (h4 : a.defers = [])
    (hl : (encs rs 0).length = at' * 64) (ho : OwnRows wr w.heap.size u rs) (hb : Below w.heap.size w wr) : bodyPost Try.prog fn (WholePost w rs) .ret a wr :=
  bodyPost_ret (results_tmp2 h1 _ _ _) h4 ⟨u, by rw [h2, h3, hl], ho, hb⟩

set_option maxRecDepth 100000 in
set_option maxHeartbeats 4000000 in
theorem whole_any (w : World) (B q : Nat) (v : Value) (n : Nat) (bs : Bs) (last most : Nat) (rs : List Bs) (h : RefAt w B q v bs last most) (hnl : bs.length = n * 64) (hrs : Parsed bs rs) :
    Calls Try.prog 47 #[.pointer (some ⟨q, 0, none⟩)] w (WholePost w rs) := by
  have H := Lib.hid h
  have HRS := Lib.hid hrs
  have hm := h.hm
  have hnm := h.hn
  have hn4 : n ≤ 4096 := by omega
  have HNL := Lib.hid hnl
  obtain ⟨a, c, rfl⟩ := h.lv
  have hlc : bs.length ≤ c := by
    rcases h.row.isB with ⟨hv, hb⟩ | ⟨b, o, c', hv, h1, _, _⟩
    · rw [hb]; simp
    · simp only [Value.slice.injEq, true_and] at hv; omega
  clear h hrs
  go_enter Try.func47, Try.ntmps47
  go_wp2
  go_loopw [4, 5] (fun s4 s5 wr => ∃ (r1 : List Bs) (at' : Nat), s5 = .int .i64 ((at' * 64 : Nat) : Int) ∧ at' ≤ n ∧ Hid (MidR bs n r1 at') ∧ Hid (OwnRows wr w.heap.size s4 r1) ∧ Hid (Below w.heap.size w wr)) (fun _ s5 _ => n * 64 - (intOf s5).toNat)
  case atStart => exact ⟨[], 0, by simp, Nat.zero_le _, Lib.hid ⟨fun r h => by simp at h, by simp [encs], by simp [encs], Nat.zero_le _⟩, Lib.hid (OwnRows.nil _ _), Lib.hid (Below.refl _ _)⟩
  case round =>
    obtain ⟨r1, at', rfl, hat, HM, HO, HB⟩ := hrel
    have HL := Lib.hid (H.out.below HB.out)
    have k0 := (cells_of_block HL.out.cells 0 (.slice a bs.length c) rfl).1
    obtain ⟨A, hA⟩ : ∃ A, at' * 64 = A := ⟨_, rfl⟩
    rw [hA]
    have HA := Lib.hid hA
    obtain ⟨ao, co, rfl⟩ := HO.out.lv
    by_cases hlt : A < bs.length
    · obtain ⟨g, rfl⟩ : ∃ g, a = some ⟨g, 0, none⟩ := by
        obtain ⟨_, ⟨hv, hn0⟩ | ⟨g, cap, cur, hv, _⟩⟩ := H.out.row
        · omega
        · simp only [Value.slice.injEq] at hv
          exact ⟨g, hv.1⟩
      have hlt2 : at' < n := by omega
      have hcell : ∀ k (hk : k < bs.length), wr.cell? ⟨g, k, none⟩ = some (.int .u8 (bs[k].toNat : Int)) := fun k hk => by
        rw [World.ownsRow.cellAt HL.out.row k (by omega), cellsU_get bs k hk]
      have HC := Lib.hid hcell
      have hb0 := hcell A hlt
      have hb1 := hcell (A + 1) (by omega)
      clear hcell
      have u0 := (bs[A]'hlt).toNat_lt
      have u1 := (bs[A + 1]'(by omega)).toNat_lt
      obtain ⟨N, hN⟩ : ∃ N, N = lenAt (bs.drop A) := ⟨_, rfl⟩
      have hNe : (bs[A]'hlt).toNat * 256 + (bs[A + 1]'(by omega)).toNat = N := by
        rw [hN, lenAt]
        simp only [List.getD_eq_getElem?_getD, List.getElem?_drop, Nat.add_zero]
        rw [List.getElem?_eq_getElem (by omega), List.getElem?_eq_getElem (by omega)]; rfl
      have hor := or_i64 _ _ N u0 u1 hNe
      have HN := Lib.hid hN
      generalize hx0 : (bs[A]'hlt).toNat = X0 at *
      generalize hx1 : (bs[A + 1]'(by omega)).toNat = X1 at *
      have hNlt : N < 65536 := by omega
      have hw : IntKind.i64.wrap ((X0 : Int) * 256) = (X0 : Int) * 256 := IntWalk.i64_in _ (by omega)
      have hw0 : IntKind.i64.wrap (X0 : Int) = (X0 : Int) := IntWalk.i64_in _ (by omega)
      have hw1 : IntKind.i64.wrap (X1 : Int) = (X1 : Int) := IntWalk.i64_in _ (by omega)
      have hwa : IntKind.i64.wrap ((A : Int) + 1) = (A : Int) + 1 := IntWalk.i64_in _ (by omega)
      have hwb : 0 ≤ (A : Int) + 1 := by omega
      have hwc : ((A : Int) + 1).toNat = A + 1 := by omega
      have hwd : (A : Int) + 1 < (bs.length : Int) := by omega
      clear hx0 hx1 hNe hN hA
      obtain ⟨K, hK⟩ : ∃ K, K = needN N := ⟨_, rfl⟩
      have hK17 : K ≤ 17 := by rw [hK]; unfold needN; split <;> omega
      have HKn := Lib.hid hK
      have hneed := fun w => needRN_any N w
      rw [← hK] at hneed
      clear hK hnl
      go_upto_region 4 with fail
      go_still (by kernel_rfl)
      clear hb0 hb1 hor hw hw0 hw1 hwa hwb hwc hwd u0 u1
      change Exit.then _ _ _ _ wr.drew
      have HC1 := Lib.hid (show ∀ k (hk : k < bs.length), wr.drew.cell? ⟨g, k, none⟩ = some (.int .u8 (bs[k].toNat : Int)) from HC.out)
      have HB1 := Lib.hid HB.out.drew
      have HO1 := Lib.hid (HO.out.same (CellsSame.of_below (Below.refl _ wr).drew))
      have HL1 := Lib.hid (HL.out.below (Below.refl _ wr).drew)
      have k0 : wr.drew.cell? ⟨q, 0, none⟩ = some (.slice (some ⟨g, 0, none⟩) bs.length c) := k0
      clear HC HB HO HL
      generalize wr.drew = w1 at *
      have hAn : A ≤ 4096 * 64 := by have := HA.out; omega
      by_cases h0 : K = 0
      · have HD := Lib.hid (HM.out.done (by rw [HA.out]; exact scan_no_len (.inl (by rw [← HN.out, ← HKn.out, h0]))))
        have hu := parsed_unique HD.out HRS.out
        subst h0
        go_wp2_with (go_at_call 15; refine (hneed _).mono ?_; rintro e w' ⟨rfl, hw⟩; obtain rfl := hw.symm)
        exact whole_ret rfl rfl (by rw [HA.out]; rfl) rfl (by rw [← hu]; exact HM.out.len) (by rw [← hu]; exact HO1.out) HB1.out
      by_cases hbig : bs.length < A + K * 64
      · have HD := Lib.hid (HM.out.done (by rw [HA.out]; exact scan_no_len (.inr (by rw [← HN.out, ← HKn.out, List.length_drop]; omega))))
        have hu := parsed_unique HD.out HRS.out
        have HU := Lib.hid hu
        have e0 : ((K : Int) * 64 == 0) = false := by simp; omega
        have e1 : decide ((bs.length : Int) < (A : Int) + (K : Int) * 64) = true := by simp; omega
        have e2 : (bs.length : Int) < (A : Int) + (K : Int) * 64 := by omega
        clear hu
        go_wp2_with (go_at_call 15; refine (hneed _).mono ?_; rintro e w' ⟨rfl, hw⟩; obtain rfl := hw.symm)
        exact whole_ret rfl rfl (by rw [HA.out]; rfl) rfl (by rw [← HU.out]; exact HM.out.len) (by rw [← HU.out]; exact HO1.out) HB1.out
      have e0 : ((K : Int) * 64 == 0) = false := by simp; omega
      have e1 : decide ((bs.length : Int) < (A : Int) + (K : Int) * 64) = false := by simp; omega
      have e2 : ¬ (bs.length : Int) < (A : Int) + (K : Int) * 64 := by omega
      have hrl : (bs.drop A).length = bs.length - A := by rw [List.length_drop]
      have hKne : needN (lenAt (bs.drop A)) ≠ 0 := by rw [← HN.out, ← HKn.out]; exact h0
      obtain ⟨hd1, hd2⟩ := data_length hKne (by rw [← HN.out, ← HKn.out]; omega)
      obtain ⟨m1, m2, _⟩ := needN_ok hKne
      rw [← HN.out] at hd1 m1 m2
      rw [← HN.out, ← HKn.out] at hd2
      have HKne := Lib.hid hKne
      obtain ⟨D, hD⟩ : ∃ D, D = ((bs.drop A).drop 8).take N := ⟨_, rfl⟩
      have hDl : N = D.length := by rw [hD]; exact hd1.symm
      have HDl := Lib.hid hDl
      have HDe := Lib.hid hD
      have hcm : c ≤ maxLen := by
        rcases H.out.row.isB with ⟨hv, hb⟩ | ⟨b, o, c', hv, _, h1, _⟩
        · cases hv
        · simp only [Value.slice.injEq, true_and] at hv; omega
      have HID := Lib.hid (show IsB w1 (.slice (some ⟨g, A + 8, none⟩) N (c - (A + 8))) D from by
        rw [hDl]
        refine .inr ⟨g, A + 8, _, rfl, by omega, by omega, fun k hk => ?_⟩
        have := HC1.out (A + 8 + k) (by omega)
        rw [this]
        simp only [hD, List.getElem_take, List.getElem_drop, Nat.add_assoc])
      have hAL : ((bs.drop A).take (K * 64)).length = K * 64 := by rw [List.length_take]; omega
      have HIA := Lib.hid (show IsB w1 (.slice (some ⟨g, A, none⟩) (K * 64) (c - A)) ((bs.drop A).take (K * 64)) from by
        refine .inr ⟨g, A, c - A, by rw [hAL], by omega, by omega, fun k hk => ?_⟩
        have := HC1.out (A + k) (by omega)
        rw [this]
        simp only [List.getElem_take, List.getElem_drop])
      have hr1 : r1.length ≤ 4096 := by
        have h1 := count_le HM.out.good 0
        rw [HM.out.len] at h1
        omega
      clear hKne hD hDl hd1 hAL
      go_wp2_with (go_at_call 15; refine (hneed _).mono ?_; rintro e w' ⟨rfl, hw⟩; obtain rfl := hw.symm)
      have hwm : ((r1.length : Int) + 1).tmod 65536 = (r1.length : Int) + 1 := by rw [Int.tmod_eq_emod_of_nonneg (by omega)]; omega
      have hwn : IntKind.i64.wrap ((r1.length : Int) + 1) = (r1.length : Int) + 1 := IntWalk.i64_in _ (by omega)
      have hws : IntKind.i64.wrap ((A : Int) + (K : Int) * 64) = (A : Int) + (K : Int) * 64 := IntWalk.i64_in _ (by omega)
      have hwt : ((A : Int) + (K : Int) * 64).toNat = A + K * 64 := by omega
      have hwu : 0 ≤ (A : Int) + (K : Int) * 64 := by omega
      have hwv : (A : Int) + (K : Int) * 64 ≤ (c : Int) := by omega
      have hwx : (A : Int) ≤ (A : Int) + (K : Int) * 64 := by omega
      have hwy : ¬ c = A := by omega
      have hwz : A + K * 64 - A = K * 64 := by omega
      have HID1 := Lib.hid (HID.out.below (Below.refl _ w1).drew)
      have HIA1 := Lib.hid (show IsB w1.drew _ _ from HIA.out.below (Below.refl _ w1).drew)
      by_cases hE : recd D (r1.length + 1) = (bs.drop A).take (K * 64)
      rotate_left
      · have HDec := Lib.hid (decide_eq_false hE)
        have HD := Lib.hid (HM.out.done (by
          rw [HA.out]
          refine scan_recd_no ?_
          rw [← HN.out, ← HKn.out, ← HDe.out]; exact hE))
        have HU := Lib.hid (parsed_unique HD.out HRS.out)
        clear hE
        refine wp_region_N (fun w' => (w'.cell? ⟨q, 0, none⟩ = some (.slice (some ⟨g, 0, none⟩) bs.length c)) ∧ (IsB w' (.slice (some ⟨g, A, none⟩) (K * 64) (c - A)) ((bs.drop A).take (K * 64))))
          [(true, 0), (true, 1), (true, 2), (true, 3), (true, 4), (true, 7), (true, 8), (true, 9), (true, 10), (true, 11), (true, 12), (true, 13), (true, 14), (true, 15), (true, 16), (false, 5), (false, 6), (true, 17)] (by kernel_rfl) (by kernel_rfl) rfl (by kernel_rfl) ?_ ?_
        · exact ⟨by first | exact k0 | exact HIA1.out | exact K2.out | exact HIA2.out, by first | exact k0 | exact HIA1.out | exact K2.out | exact HIA2.out⟩
        simp only [List.filterMap_cons, List.filterMap_nil, List.getElem?_cons_succ, List.getElem?_cons_zero, Option.map_some]
        apply wpSeq_takeK _ (by first | rfl | (simp [Region.wanted, yielded]; done))
        · intro w' hS
          obtain ⟨s0, s1⟩ := hS
          skip
          go_simp
          try rfl
        intro K hK
        go_simp
        refine hK _ ?_
        clear hK K
        apply wpSeq_takeK _ (by first | rfl | (simp [Region.wanted, yielded]; done))
        · intro w' hS
          obtain ⟨s0, s1⟩ := hS
          skip
          go_simp
          try rfl
        intro K hK
        go_simp
        refine hK _ ?_
        clear hK K
        apply wpSeq_takeK _ (by first | rfl | (simp [Region.wanted, yielded]; done))
        · intro w' hS
          obtain ⟨s0, s1⟩ := hS
          skip
          go_simp
          try rfl
        intro K hK
        go_simp
        refine hK _ ?_
        clear hK K
        apply wpSeq_takeK _ (by first | rfl | (simp [Region.wanted, yielded]; done))
        · intro w' hS
          obtain ⟨s0, s1⟩ := hS
          skip
          go_simp
          try rfl
        intro K hK
        go_simp
        refine hK _ ?_
        clear hK K
        apply wpSeq_takeK _ (by first | rfl | (simp [Region.wanted, yielded]; done))
        · intro w' hS
          obtain ⟨s0, s1⟩ := hS
          skip
          go_simp
          try rfl
        intro K hK
        go_simp
        refine hK _ ?_
        clear hK K
        apply wpSeq_takeK _ (by first | rfl | (simp [Region.wanted, yielded]; done))
        · intro w' hS
          obtain ⟨s0, s1⟩ := hS
          skip
          go_simp
          try rfl
        intro K hK
        go_simp
        refine hK _ ?_
        clear hK K
        apply wpSeq_takeK _ (by first | rfl | (simp [Region.wanted, yielded]; done))
        · intro w' hS
          obtain ⟨s0, s1⟩ := hS
          skip
          go_simp
          try rfl
        intro K hK
        go_simp
        refine hK _ ?_
        clear hK K
        apply wpSeq_takeK _ (by first | rfl | (simp [Region.wanted, yielded]; done))
        · intro w' hS
          obtain ⟨s0, s1⟩ := hS
          skip
          go_simp
          try rfl
        intro K hK
        go_simp
        refine hK _ ?_
        clear hK K
        apply wpSeq_takeK _ (by first | rfl | (simp [Region.wanted, yielded]; done))
        · intro w' hS
          obtain ⟨s0, s1⟩ := hS
          skip
          go_simp
          try rfl
        intro K hK
        go_simp
        refine hK _ ?_
        clear hK K
        apply wpSeq_takeK _ (by first | rfl | (simp [Region.wanted, yielded]; done))
        · intro w' hS
          obtain ⟨s0, s1⟩ := hS
          skip
          go_simp
          try rfl
        intro K hK
        go_simp
        refine hK _ ?_
        clear hK K
        apply wpSeq_takeK _ (by first | rfl | (simp [Region.wanted, yielded]; done))
        · intro w' hS
          obtain ⟨s0, s1⟩ := hS
          skip
          go_simp
          try rfl
        intro K hK
        go_simp
        refine hK _ ?_
        clear hK K
        apply wpSeq_takeK _ (by first | rfl | (simp [Region.wanted, yielded]; done))
        · intro w' hS
          obtain ⟨s0, s1⟩ := hS
          skip
          go_simp
          try rfl
        intro K hK
        go_simp
        refine hK _ ?_
        clear hK K
        apply wpSeq_takeK _ (by first | rfl | (simp [Region.wanted, yielded]; done))
        · intro w' hS
          obtain ⟨s0, s1⟩ := hS
          skip
          go_simp
          try rfl
        intro K hK
        go_simp
        refine hK _ ?_
        clear hK K
        apply wpSeq_takeK _ (by first | rfl | (simp [Region.wanted, yielded]; done))
        · intro w' hS
          obtain ⟨s0, s1⟩ := hS
          skip
          go_simp
          try rfl
        intro K hK
        go_simp
        refine hK _ ?_
        clear hK K
        refine wpSeq_takeK (.string ⟨((bs.drop A).take (K * 64)).toArray⟩) (by first | rfl | (simp [Region.wanted, yielded]; done)) ?_ ?_
        · intro w' hS
          obtain ⟨s0, s1⟩ := hS
          exact exec_text rfl rfl s1
        intro K hK
        go_simp
        refine hK _ ?_
        clear hK K
        refine wpSeq_alone ?_
        (go_wp2_with (go_at_call 48; refine (record_any D (r1.length + 1) _ (by omega) _ _ (by have := HDl.out; omega) (by have := HDl.out; omega) (by omega) HID1.out).mono ?_; rintro e w2 ⟨v2, rfl, ho2, hb2⟩; obtain ⟨a2, c2, rfl⟩ := ho2.lv; have HO2 := Lib.hid ho2; have HB2 := Lib.hid (show Below w1.heap.size w1 w2 from ⟨hb2.os, hb2.tape, hb2.output, hb2.size, hb2.block⟩); have K2 := Lib.hid ((HB2.out.cell (p := ⟨q, 0, none⟩) (World.block_lt_of_cell? w1 _ k0)).trans k0); have HIA2 := Lib.hid (HIA.out.below HB2.out); clear ho2 hb2))
        refine QS_normal ⟨by first | exact k0 | exact HIA1.out | exact K2.out | exact HIA2.out, by first | exact k0 | exact HIA1.out | exact K2.out | exact HIA2.out⟩ (fun _ => ?_)
        refine wpSeq_alone ?_
        ((try simp only [List.getElem_toArray, List.getElem_cons_succ, List.getElem_cons_zero]); refine wpList_text rfl _ rfl _ rfl (recd D (r1.length + 1)) HO2.out.isB ?_; go_wp2)
        refine QS_normal ⟨by first | exact k0 | exact HIA1.out | exact K2.out | exact HIA2.out, by first | exact k0 | exact HIA1.out | exact K2.out | exact HIA2.out⟩ (fun _ => ?_)
        refine wpSeq_takeK (.bool true) (by first | rfl | (simp [Region.wanted, yielded]; done)) ?_ ?_
        · intro w' hS
          obtain ⟨s0, s1⟩ := hS
          (rw [exec_neqText rfl rfl rfl, HDec.out]; rfl)
        intro K hK
        go_simp
        refine hK _ ?_
        clear hK K
        refine wpSeq_end ?_
        clear hwm hwn hws hwt hwu hwv hwx hwy hwz
        go_wp2
        exact whole_ret rfl rfl (by rw [HA.out]; rfl) rfl (by rw [← HU.out]; exact HM.out.len) (by rw [← HU.out]; exact HO1.out.same (CellsSame.of_below HB2.out)) (HB1.out.trans (HB2.out.mono HB1.out.size))
      · have HDec := Lib.hid (decide_eq_true hE)
        have HS := Lib.hid (show scan (bs.drop (at' * 64)) (r1.length + 1) = some D by
          rw [HA.out]
          have := scan_recd_yes HKne.out (by rw [← HN.out, ← HKn.out]; omega) (k := r1.length + 1) (by rw [← HN.out, ← HKn.out, ← HDe.out]; exact hE)
          rw [this, ← HN.out, ← HDe.out])
        have HST := Lib.hid (HM.out.step HNL.out HS.out)
        clear hE
        refine wp_region_N (fun w' => (w'.cell? ⟨q, 0, none⟩ = some (.slice (some ⟨g, 0, none⟩) bs.length c)) ∧ (IsB w' (.slice (some ⟨g, A, none⟩) (K * 64) (c - A)) ((bs.drop A).take (K * 64))))
          [(true, 0), (true, 1), (true, 2), (true, 3), (true, 4), (true, 7), (true, 8), (true, 9), (true, 10), (true, 11), (true, 12), (true, 13), (true, 14), (true, 15), (true, 16), (false, 5), (false, 6), (true, 17)] (by kernel_rfl) (by kernel_rfl) rfl (by kernel_rfl) ?_ ?_
        · exact ⟨by first | exact k0 | exact HIA1.out | exact K2.out | exact HIA2.out, by first | exact k0 | exact HIA1.out | exact K2.out | exact HIA2.out⟩
        simp only [List.filterMap_cons, List.filterMap_nil, List.getElem?_cons_succ, List.getElem?_cons_zero, Option.map_some]
        apply wpSeq_takeK _ (by first | rfl | (simp [Region.wanted, yielded]; done))
        · intro w' hS
          obtain ⟨s0, s1⟩ := hS
          skip
          go_simp
          try rfl
        intro K hK
        go_simp
        refine hK _ ?_
        clear hK K
        apply wpSeq_takeK _ (by first | rfl | (simp [Region.wanted, yielded]; done))
        · intro w' hS
          obtain ⟨s0, s1⟩ := hS
          skip
          go_simp
          try rfl
        intro K hK
        go_simp
        refine hK _ ?_
        clear hK K
        apply wpSeq_takeK _ (by first | rfl | (simp [Region.wanted, yielded]; done))
        · intro w' hS
          obtain ⟨s0, s1⟩ := hS
          skip
          go_simp
          try rfl
        intro K hK
        go_simp
        refine hK _ ?_
        clear hK K
        apply wpSeq_takeK _ (by first | rfl | (simp [Region.wanted, yielded]; done))
        · intro w' hS
          obtain ⟨s0, s1⟩ := hS
          skip
          go_simp
          try rfl
        intro K hK
        go_simp
        refine hK _ ?_
        clear hK K
        apply wpSeq_takeK _ (by first | rfl | (simp [Region.wanted, yielded]; done))
        · intro w' hS
          obtain ⟨s0, s1⟩ := hS
          skip
          go_simp
          try rfl
        intro K hK
        go_simp
        refine hK _ ?_
        clear hK K
        apply wpSeq_takeK _ (by first | rfl | (simp [Region.wanted, yielded]; done))
        · intro w' hS
          obtain ⟨s0, s1⟩ := hS
          skip
          go_simp
          try rfl
        intro K hK
        go_simp
        refine hK _ ?_
        clear hK K
        apply wpSeq_takeK _ (by first | rfl | (simp [Region.wanted, yielded]; done))
        · intro w' hS
          obtain ⟨s0, s1⟩ := hS
          skip
          go_simp
          try rfl
        intro K hK
        go_simp
        refine hK _ ?_
        clear hK K
        apply wpSeq_takeK _ (by first | rfl | (simp [Region.wanted, yielded]; done))
        · intro w' hS
          obtain ⟨s0, s1⟩ := hS
          skip
          go_simp
          try rfl
        intro K hK
        go_simp
        refine hK _ ?_
        clear hK K
        apply wpSeq_takeK _ (by first | rfl | (simp [Region.wanted, yielded]; done))
        · intro w' hS
          obtain ⟨s0, s1⟩ := hS
          skip
          go_simp
          try rfl
        intro K hK
        go_simp
        refine hK _ ?_
        clear hK K
        apply wpSeq_takeK _ (by first | rfl | (simp [Region.wanted, yielded]; done))
        · intro w' hS
          obtain ⟨s0, s1⟩ := hS
          skip
          go_simp
          try rfl
        intro K hK
        go_simp
        refine hK _ ?_
        clear hK K
        apply wpSeq_takeK _ (by first | rfl | (simp [Region.wanted, yielded]; done))
        · intro w' hS
          obtain ⟨s0, s1⟩ := hS
          skip
          go_simp
          try rfl
        intro K hK
        go_simp
        refine hK _ ?_
        clear hK K
        apply wpSeq_takeK _ (by first | rfl | (simp [Region.wanted, yielded]; done))
        · intro w' hS
          obtain ⟨s0, s1⟩ := hS
          skip
          go_simp
          try rfl
        intro K hK
        go_simp
        refine hK _ ?_
        clear hK K
        apply wpSeq_takeK _ (by first | rfl | (simp [Region.wanted, yielded]; done))
        · intro w' hS
          obtain ⟨s0, s1⟩ := hS
          skip
          go_simp
          try rfl
        intro K hK
        go_simp
        refine hK _ ?_
        clear hK K
        apply wpSeq_takeK _ (by first | rfl | (simp [Region.wanted, yielded]; done))
        · intro w' hS
          obtain ⟨s0, s1⟩ := hS
          skip
          go_simp
          try rfl
        intro K hK
        go_simp
        refine hK _ ?_
        clear hK K
        refine wpSeq_takeK (.string ⟨((bs.drop A).take (K * 64)).toArray⟩) (by first | rfl | (simp [Region.wanted, yielded]; done)) ?_ ?_
        · intro w' hS
          obtain ⟨s0, s1⟩ := hS
          exact exec_text rfl rfl s1
        intro K hK
        go_simp
        refine hK _ ?_
        clear hK K
        refine wpSeq_alone ?_
        (go_wp2_with (go_at_call 48; refine (record_any D (r1.length + 1) _ (by omega) _ _ (by have := HDl.out; omega) (by have := HDl.out; omega) (by omega) HID1.out).mono ?_; rintro e w2 ⟨v2, rfl, ho2, hb2⟩; obtain ⟨a2, c2, rfl⟩ := ho2.lv; have HO2 := Lib.hid ho2; have HB2 := Lib.hid (show Below w1.heap.size w1 w2 from ⟨hb2.os, hb2.tape, hb2.output, hb2.size, hb2.block⟩); have K2 := Lib.hid ((HB2.out.cell (p := ⟨q, 0, none⟩) (World.block_lt_of_cell? w1 _ k0)).trans k0); have HIA2 := Lib.hid (HIA.out.below HB2.out); clear ho2 hb2))
        refine QS_normal ⟨by first | exact k0 | exact HIA1.out | exact K2.out | exact HIA2.out, by first | exact k0 | exact HIA1.out | exact K2.out | exact HIA2.out⟩ (fun _ => ?_)
        refine wpSeq_alone ?_
        ((try simp only [List.getElem_toArray, List.getElem_cons_succ, List.getElem_cons_zero]); refine wpList_text rfl _ rfl _ rfl (recd D (r1.length + 1)) HO2.out.isB ?_; go_wp2)
        refine QS_normal ⟨by first | exact k0 | exact HIA1.out | exact K2.out | exact HIA2.out, by first | exact k0 | exact HIA1.out | exact K2.out | exact HIA2.out⟩ (fun _ => ?_)
        refine wpSeq_takeK (.bool false) (by first | rfl | (simp [Region.wanted, yielded]; done)) ?_ ?_
        · intro w' hS
          obtain ⟨s0, s1⟩ := hS
          (rw [exec_neqText rfl rfl rfl, HDec.out]; rfl)
        intro K hK
        go_simp
        refine hK _ ?_
        clear hK K
        refine wpSeq_end ?_
        clear hwm hwn hws hwt hwu hwv hwx hwy hwz
        have HNK := Lib.hid (show needN D.length = K by rw [← HDl.out]; exact HKn.out.symm)
        have HID2 := Lib.hid ((HID.out.below HB2.out).below ((Below.refl w2.heap.size w2).alloc (Nat.le_refl _) (.cells #[] 5)))
        have HOw := Lib.hid (HO1.out.same (CellsSame.of_below HB2.out))
        have HBw := Lib.hid (HB1.out.trans (HB2.out.mono HB1.out.size))
        go_wp2_with (first
          | (at_builtin; refine wpList_app_bytes rfl _ _ rfl w2.heap.size (.slice (some ⟨w2.heap.size, 0, none⟩) 0 0) [] rfl (World.ownsRow_made w2 _ 0 (Nat.le_refl _) (by unfold maxLen; omega) rfl) _ D rfl HID2.out (by have := HDl.out; simp; omega) (by simp) ?_; intro v3 w3 ho3 hg3; obtain ⟨a3, c3, rfl⟩ := OwnB.lv (l := D) ho3; have HO3 := Lib.hid (show OwnB w3 w2.heap.size (.slice a3 D.length c3) D from ho3); have HB3 := Lib.hid (((Below.refl w2.heap.size w2).alloc (Nat.le_refl _) (.cells #[] 5)).grown hg3 (by simp) (fun k e => by simp [Value.ownBlock] at e; omega)); clear ho3 hg3)
          | (at_builtin; refine wpList_app_row rfl _ _ rfl w.heap.size (.slice ao r1.length co) r1 rfl (HOw.out.same (CellsSame.of_below (HB3.out.alloc HB3.out.size _))) w3.heap.size _ _ D rfl (World.ownsRow.alloc (ownsRow_mono HO3.out HBw.out.size) _) (cells_of_block heap_alloc_eq 0 _ rfl).1 (by omega) (by have := HBw.out.size; have := HB3.out.size; simp; omega) ?_; intro v4 w4 ho4 hg4; obtain ⟨a4, c4, rfl⟩ := ho4.lv; have HO4 := Lib.hid ho4; have HB4 := Lib.hid ((HBw.out.trans ((HB3.out.alloc HB3.out.size _).mono HBw.out.size)).grown hg4 (by have := HBw.out.size; have := HB3.out.size; simp; omega) (fun k e => (HOw.out.lt k e).1)); clear ho4 hg4))
        have hle := HST.out.le
        rw [HNK.out] at hle
        go_wp2
        go_roundw
        case rel => exact ⟨r1 ++ [D], at' + K, by have := HA.out; simp only [Value.int.injEq, true_and]; omega, hle, Lib.hid (by have := HST.out; rw [HNK.out] at this; exact this), by simpa using HO4, HB4⟩
        case measure => simp [intOf]; have := HA.out; omega
    · have hAe : at' = n := by have := HA.out; have := HNL.out; omega
      have HD := Lib.hid (HM.out.done (by rw [HA.out, List.drop_eq_nil_of_le (by omega)]; exact scan_nil _))
      have hu := parsed_unique HD.out HRS.out
      have HU := Lib.hid hu
      clear hu
      go_wp2
      exact whole_ret rfl rfl (by rw [HA.out]; rfl) rfl (by rw [← HU.out]; exact HM.out.len) (by rw [← HU.out]; exact HO.out) HB.out

end Go.Proofs.Ytmkfiecdgghceaa
