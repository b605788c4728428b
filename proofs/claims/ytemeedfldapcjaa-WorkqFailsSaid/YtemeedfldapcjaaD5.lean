/- wharfingerlaw08.WorkqFails answers true for every deeds, key and number, and its arguments read as before. No condition. -/
import Derived.Test.YtemeedfldapcjaaS7
import Derived.Test.YtemeedfldapcjaaLaw
import Derived.Lib.SmallJoins
import Derived.WalkMore
import Derived.OwnWalk
import Derived.RegionTactic
import Derived.Deep.CutBlock
namespace Go.Proofs.Ytemeedfldapcjaa
open Go.RowKit
set_option linter.unusedVariables false
set_option linter.unusedSimpArgs false
namespace workqFails
open Go.ChangeShapes Go.WideShapes Go.ChangeAt Go.RowKit

theorem DeedsAt.below {w w' : World} {v : Value} {ds : List Deed} (h : DeedsAt w v ds) (hb : Below w.heap.size w w') : DeedsAt w' v ds := by
  obtain ⟨⟨ao, cap, hv, h1, h2, h3⟩, hn⟩ := h
  refine ⟨⟨ao, cap, hv, h1, h2, fun h0 => ?_⟩, hn⟩
  obtain ⟨a, ha, hlt, hc⟩ := h3 h0
  exact ⟨a, ha, Nat.lt_of_lt_of_le hlt hb.size, fun j hj o ho => (hb.cell (p := (a.add (j * 4)).add o) (by rw [add_block, add_block]; exact hlt)).trans (hc j hj o ho)⟩

/-- behind j failures -/
structure FS (w wr : World) (L : QLoc) (q : WQ) (k : GKey) (j : Nat) : Prop where
  qa : QAt wr L q
  b : Below w.heap.size w wr
  new : ∀ i, L.mine i → w.heap.size < i
  f : (assoc q.fails k).getD 0 = min j 40
  len : q.waits.length ≤ 60 + j
  nx : 0 ≤ q.next ∧ q.next ≤ 60 + j

theorem FS.code {w wr : World} {L : QLoc} {q : WQ} {k : GKey} {j : Nat} (h : FS w wr L q k j) (hj : j ≤ 60) : q.code k = 0 := by
  have := h.len
  have hf : q.full k = false := by unfold WQ.full; rw [show decide (256 ≤ q.waits.length) = false by simp; omega, Bool.and_false]
  simp [WQ.code, hf]
theorem FS.failN {w wr : World} {L : QLoc} {q : WQ} {k : GKey} {j : Nat} (h : FS w wr L q k j) : q.failN k = min ((j : Int) + 1) 40 := by
  unfold WQ.failN; rw [h.f]; omega
theorem FS.next {w wr w' : World} {L : QLoc} {q : WQ} {k : GKey} {j : Nat} (h : FS w wr L q k j) (hj : j ≤ 60) (hq : QAt w' L (q.fail k 1000)) (hk : Keeps L.mine wr w') :
    FS w w' L (q.fail k 1000) k (j + 1) ∧ ((assoc (q.fail k 1000).waits k).getD (0, 0)).2 = 1000 + delayB (min ((j : Int) + 1) 40) ∧ (assoc (q.fail k 1000).waits k).isSome = true := by
  have hl := h.len
  have hf : q.full k = false := by unfold WQ.full; rw [show decide (256 ≤ q.waits.length) = false by simp; omega, Bool.and_false]
  have hN := h.failN
  have hd := delayB_le (min ((j : Int) + 1) 40)
  have hfd : failDue 1000 (q.failN k) = 1000 + delayB (min ((j : Int) + 1) 40) := by unfold failDue topU; rw [hN]; omega
  have hnx := h.nx
  have e : q.fail k 1000 = q.put k (1000 + delayB (min ((j : Int) + 1) 40)) (assocPut q.fails k (min ((j : Int) + 1) 40)) := by
    unfold WQ.fail WQ.ins; rw [hf, hfd, hN]; rfl
  rw [e] at hq ⊢
  unfold WQ.put at hq ⊢
  cases ha : assoc q.waits k with
  | none =>
    rw [ha] at hq
    refine ⟨⟨hq, below_mine h.b hk (fun i hi => Nat.le_of_lt (h.new i hi)), h.new, ?_, ?_, ?_⟩, ?_, ?_⟩
    · simp only; rw [assoc_put, if_pos rfl]; simp only [Option.getD_some]; omega
    · have := put_len q.waits k (q.next + 1, 1000 + delayB (min ((j : Int) + 1) 40)); simp only; omega
    · simp only; omega
    · simp only; rw [assoc_put, if_pos rfl]; rfl
    · simp only; rw [assoc_put, if_pos rfl]; rfl
  | some p =>
    rw [ha] at hq
    refine ⟨⟨hq, below_mine h.b hk (fun i hi => Nat.le_of_lt (h.new i hi)), h.new, ?_, ?_, ?_⟩, ?_, ?_⟩
    · simp only; rw [assoc_put, if_pos rfl]; simp only [Option.getD_some]; omega
    · have := put_len q.waits k (p.1, 1000 + delayB (min ((j : Int) + 1) 40)); simp only; omega
    · simp only; omega
    · simp only; rw [assoc_put, if_pos rfl]; rfl
    · simp only; rw [assoc_put, if_pos rfl]; rfl

set_option maxRecDepth 100000 in
set_option maxHeartbeats 4000000 in
theorem walk (v : Value) (ds : List Deed) (k : GKey) (n : Int) (hn : 0 ≤ n ∧ n ≤ 255) (w : World) (h : DeedsAt w v ds) : Calls Try.prog 5 #[v, .agg #[.int .u8 k.kind, .string k.name], .int .u8 n] w fun e w' => e = .returned (.bool true) ∧ Below w.heap.size w w' := by
  have H := play_any v ds _ (DeedsAt.below h ((Below.refl w.heap.size w).alloc (Nat.le_refl _) (.cells #[.int .u8 k.kind, .string k.name] 28)))
  have hx0 : (w.alloc (.cells #[.int .u8 k.kind, .string k.name] 28)).heap[w.heap.size]? = some (.cells #[.int .u8 k.kind, .string k.name] 28) := heap_alloc_eq
  have hB0 := (Below.refl w.heap.size w).alloc (Nat.le_refl _) (.cells #[.int .u8 k.kind, .string k.name] 28)
  have HB0 := Lib.hid hB0
  have HX0 := Lib.hid hx0
  have hsz : (w.alloc (.cells #[.int .u8 k.kind, .string k.name] 28)).heap.size = w.heap.size + 1 := by simp
  have HSZ := Lib.hid hsz
  obtain ⟨⟨ao, cap, rfl, _⟩, _⟩ := h
  obtain ⟨n0, n1⟩ := hn
  clear hx0 hB0 hsz
  go_enter Try.func5, Try.ntmps5
  go_wp2_with fail
  refine H.mono ?_
  clear H
  rintro e w1 ⟨L, R, q, r, rfl, hp⟩
  have HP := Lib.hid hp
  have hx1 := (hp.b.block _ (by rw [HSZ.out]; omega)).trans HX0.out
  have HX1 := Lib.hid hx1
  clear hp hx1
  go_wp2_with fail
  refine (live_any w1).mono ?_
  rintro e w2 ⟨rfl, hb⟩
  have HQ2 := Lib.hid (HP.out.both.qa.keep (Keeps.of_below (F := fun _ => False) hb) (by simp) (by simp) (by simp))
  have HB2 := Lib.hid ((HB0.out.trans (HP.out.b.mono HB0.out.size)).trans (hb.mono (by have := HP.out.b.size; rw [HSZ.out] at this; omega)))
  have HL := Lib.hid (show ∀ i, L.mine i → w.heap.size < i from fun i hi => by have := HP.out.new i (.inl hi); rw [HSZ.out] at this; omega)
  have HREL := Lib.hid HP.out.both.rel
  have hx2 := (hb.block _ (heap_lt HX1.out)).trans HX1.out
  have HX2 := Lib.hid hx2
  obtain ⟨b0, _⟩ := cells_of_block hx2 0 _ rfl
  obtain ⟨b1, _⟩ := cells_of_block hx2 1 _ rfl
  simp only [List.getElem_toArray, List.getElem_cons_zero, List.getElem_cons_succ] at b0 b1
  clear hb HP hx2
  go_wp2_with fail
  refine (forget_any L q k w2 HQ2.out).mono ?_
  rintro e w3 ⟨rfl, hq, hk⟩
  have hnm : ¬ L.mine w.heap.size := fun hm => by have := HL.out _ hm; omega
  have HNM := Lib.hid hnm
  have hx3 := (hk.block _ (heap_lt HX2.out) hnm).trans HX2.out
  have hfs : FS w w3 L { q with fails := assocDel q.fails k } k 0 := by
    refine ⟨hq, below_mine HB2.out hk (fun i hi => Nat.le_of_lt (HL.out i hi)), HL.out, ?_, by have := HREL.out.len; simp only; omega, by have := HREL.out.nx; simp only; omega⟩
    simp only
    rw [assoc_del HREL.out.fkeys, if_pos rfl]; rfl
  have HFS := Lib.hid hfs
  have HX3 := Lib.hid hx3
  clear hq hk hx3 hfs b0 b1 hnm
  go_wp2_with fail
  go_loopw [10] (fun i wr => ∃ (j : Nat) (q : WQ), j ≤ 49 ∧ i = .int .i64 (j + 1) ∧ Hid (FS w wr L q k j) ∧ Hid (wr.heap[w.heap.size]? = some (.cells #[.int .u8 k.kind, .string k.name] 28))) (fun i _ => 60 - (intOf i).toNat)
  case atStart => exact ⟨0, _, by omega, rfl, HFS, HX3⟩
  case round =>
    obtain ⟨j, q, hj, rfl, hF, hX⟩ := hrel
    obtain ⟨b0, _⟩ := cells_of_block hX.out 0 _ rfl
    obtain ⟨b1, _⟩ := cells_of_block hX.out 1 _ rfl
    simp only [List.getElem_toArray, List.getElem_cons_zero, List.getElem_cons_succ] at b0 b1
    by_cases hlt : (j : Int) + 1 ≤ n % 50
    · have hj48 : j ≤ 48 := by omega
      have hd1 := delayB_le (min ((j : Int) + 1) 40)
      have hw : IntKind.u64.wrap (1000 + delayB (min ((j : Int) + 1) 40)) = 1000 + delayB (min ((j : Int) + 1) 40) := by simp [IntKind.wrap, IntKind.bits, IntKind.signed]; omega
      have hcase : ((j : Int) + 1 ≤ 40 ∧ min ((j : Int) + 1) 40 = (j : Int) + 1) ∨ (¬ (j : Int) + 1 ≤ 40 ∧ min ((j : Int) + 1) 40 = 40) := by omega
      rcases hcase with ⟨h40, hM⟩ | ⟨h40, hM⟩
      · rw [hM] at hw
        have hmm : ((min (j + 1) 40 : Nat) : Int) = (j : Int) + 1 := by omega
        go_wp2_with fail
        refine (fail_any L q k 1000 wr hF.out.qa ⟨hF.out.nx.1, by have := hF.out.nx.2; omega⟩ (by rw [hF.out.f]; omega) (by decide)).mono ?_
        rintro e w5 ⟨rfl, hq5, hk5⟩
        rw [hF.out.code (by omega)]
        obtain ⟨f5, due5, is5⟩ := hF.out.next (by omega) hq5 hk5
        have hx5 := (hk5.block _ (heap_lt hX.out) HNM.out).trans hX.out
        have HF5 := Lib.hid f5
        have HX5 := Lib.hid hx5
        have DUE5 := Lib.hid due5
        have IS5 := Lib.hid is5
        clear b0 b1 f5 due5 is5 hq5 hk5
        obtain ⟨b0, _⟩ := cells_of_block hx5 0 _ rfl
        obtain ⟨b1, _⟩ := cells_of_block hx5 1 _ rfl
        simp only [List.getElem_toArray, List.getElem_cons_zero, List.getElem_cons_succ] at b0 b1
        clear hx5
        generalize q.fail k 1000 = q5 at *
        go_wp2_with fail
        refine (due_any L q5 k w5 HF5.out.qa).mono ?_
        rintro e w6 ⟨rfl, hb6⟩
        rw [DUE5.out, IS5.out, hM]
        have hf6 : FS w w6 L q5 k (j + 1) := ⟨HF5.out.qa.keep (Keeps.of_below (F := fun _ => False) hb6) (by simp) (by simp) (by simp), HF5.out.b.trans (hb6.mono HF5.out.b.size), HF5.out.new, HF5.out.f, HF5.out.len, HF5.out.nx⟩
        have hx6 := (hb6.block _ (heap_lt HX5.out)).trans HX5.out
        have HF6 := Lib.hid hf6
        have HX6 := Lib.hid hx6
        clear b0 b1 hf6 hb6
        obtain ⟨b0, _⟩ := cells_of_block hx6 0 _ rfl
        obtain ⟨b1, _⟩ := cells_of_block hx6 1 _ rfl
        simp only [List.getElem_toArray, List.getElem_cons_zero, List.getElem_cons_succ] at b0 b1
        clear hx6
        go_wp2_with fail
        refine (fails_any L q5 k w6 HF6.out.qa).mono ?_
        rintro e w7 ⟨rfl, hb7⟩
        rw [HF6.out.f, hmm]
        have hf7 : FS w w7 L q5 k (j + 1) := ⟨HF6.out.qa.keep (Keeps.of_below (F := fun _ => False) hb7) (by simp) (by simp) (by simp), HF6.out.b.trans (hb7.mono HF6.out.b.size), HF6.out.new, HF6.out.f, HF6.out.len, HF6.out.nx⟩
        have hx7 := (hb7.block _ (heap_lt HX6.out)).trans HX6.out
        have HF7 := Lib.hid hf7
        have HX7 := Lib.hid hx7
        clear b0 b1 hf7 hb7 hx7
        go_wp2_with fail
        refine (delay_any _ w7 (by omega) (by omega)).mono ?_
        rintro e w8 ⟨rfl, rfl⟩
        go_wp2
        go_roundw
        case rel => exact ⟨j + 1, q5, by omega, by simp, HF7, HX7⟩
        case measure => simp [intOf]; omega
      · rw [hM] at hw
        have hmm : ((min (j + 1) 40 : Nat) : Int) = 40 := by omega
        go_wp2_with fail
        refine (fail_any L q k 1000 wr hF.out.qa ⟨hF.out.nx.1, by have := hF.out.nx.2; omega⟩ (by rw [hF.out.f]; omega) (by decide)).mono ?_
        rintro e w5 ⟨rfl, hq5, hk5⟩
        rw [hF.out.code (by omega)]
        obtain ⟨f5, due5, is5⟩ := hF.out.next (by omega) hq5 hk5
        have hx5 := (hk5.block _ (heap_lt hX.out) HNM.out).trans hX.out
        have HF5 := Lib.hid f5
        have HX5 := Lib.hid hx5
        have DUE5 := Lib.hid due5
        have IS5 := Lib.hid is5
        clear b0 b1 f5 due5 is5 hq5 hk5
        obtain ⟨b0, _⟩ := cells_of_block hx5 0 _ rfl
        obtain ⟨b1, _⟩ := cells_of_block hx5 1 _ rfl
        simp only [List.getElem_toArray, List.getElem_cons_zero, List.getElem_cons_succ] at b0 b1
        clear hx5
        generalize q.fail k 1000 = q5 at *
        go_wp2_with fail
        refine (due_any L q5 k w5 HF5.out.qa).mono ?_
        rintro e w6 ⟨rfl, hb6⟩
        rw [DUE5.out, IS5.out, hM]
        have hf6 : FS w w6 L q5 k (j + 1) := ⟨HF5.out.qa.keep (Keeps.of_below (F := fun _ => False) hb6) (by simp) (by simp) (by simp), HF5.out.b.trans (hb6.mono HF5.out.b.size), HF5.out.new, HF5.out.f, HF5.out.len, HF5.out.nx⟩
        have hx6 := (hb6.block _ (heap_lt HX5.out)).trans HX5.out
        have HF6 := Lib.hid hf6
        have HX6 := Lib.hid hx6
        clear b0 b1 hf6 hb6
        obtain ⟨b0, _⟩ := cells_of_block hx6 0 _ rfl
        obtain ⟨b1, _⟩ := cells_of_block hx6 1 _ rfl
        simp only [List.getElem_toArray, List.getElem_cons_zero, List.getElem_cons_succ] at b0 b1
        clear hx6
        go_wp2_with fail
        refine (fails_any L q5 k w6 HF6.out.qa).mono ?_
        rintro e w7 ⟨rfl, hb7⟩
        rw [HF6.out.f, hmm]
        have hf7 : FS w w7 L q5 k (j + 1) := ⟨HF6.out.qa.keep (Keeps.of_below (F := fun _ => False) hb7) (by simp) (by simp) (by simp), HF6.out.b.trans (hb7.mono HF6.out.b.size), HF6.out.new, HF6.out.f, HF6.out.len, HF6.out.nx⟩
        have hx7 := (hb7.block _ (heap_lt HX6.out)).trans HX6.out
        have HF7 := Lib.hid hf7
        have HX7 := Lib.hid hx7
        clear b0 b1 hf7 hb7 hx7
        go_wp2_with fail
        refine (delay_any _ w7 (by omega) (by omega)).mono ?_
        rintro e w8 ⟨rfl, rfl⟩
        go_wp2
        go_roundw
        case rel => exact ⟨j + 1, q5, by omega, by simp, HF7, HX7⟩
        case measure => simp [intOf]; omega
    · go_wp2_with fail
      refine (forget_any L q k wr hF.out.qa).mono ?_
      rintro e w5 ⟨rfl, hq5, hk5⟩
      have hx5 := (hk5.block _ (heap_lt hX.out) HNM.out).trans hX.out
      have hb5 := below_mine hF.out.b hk5 (fun i hi => Nat.le_of_lt (hF.out.new i hi))
      have hfk : (q.fails.map (·.1)).Nodup := by obtain ⟨_, _, ⟨_, _, _, hr⟩, _⟩ := hF.out.qa; exact hr.keys
      have h0 : (assoc (assocDel q.fails k) k).getD 0 = 0 := by rw [assoc_del hfk, if_pos rfl]; rfl
      have HB5 := Lib.hid hb5
      have HQ5 := Lib.hid hq5
      have H0 := Lib.hid h0
      clear b0 b1 hq5 hk5 hb5 hfk h0
      obtain ⟨b0, _⟩ := cells_of_block hx5 0 _ rfl
      obtain ⟨b1, _⟩ := cells_of_block hx5 1 _ rfl
      simp only [List.getElem_toArray, List.getElem_cons_zero, List.getElem_cons_succ] at b0 b1
      clear hx5
      go_wp2_with fail
      refine (fails_any L _ k w5 HQ5.out).mono ?_
      rintro e w6 ⟨rfl, hb6⟩
      simp only
      rw [H0.out]
      have HB6 := Lib.hid (HB5.out.trans (hb6.mono HB5.out.size))
      clear hb6
      go_wp2
      go_ret
      exact ⟨ret_true (by simp), HB6.out⟩

theorem own : ownKnob Try.prog.godebug = none := by kernel_rfl
theorem laidOut : laidOutB Try.prog = true := by kernel_rfl
set_option maxRecDepth 100000 in
theorem lifted (os : Os) (started : os.Started) (H : Type) (enc : TypeId × Value → H) :
    ReturnsInHanded {} Try.checked os 5 .any (Rows.workqFailsSpec.pre6 enc Try.prog Try.f5 Rows.workqFailsRow.domain false) (Rows.workqFailsSpec.post enc Try.prog Try.f5 false true false false) := by
  refine returnsInHanded_of_change (C := Try.checked) own started (by kernel_rfl) Try.func5
    (ChangeSpec.witness6 (enc := enc) (C := Try.checked) false ⟨#[], #[.slice none 0 0, .agg #[.int .u8 0, .string ByteArray.empty], .int .u8 0], []⟩ 8 (by kernel_rfl) (by kernel_rfl) (by kernel_rfl) (by kernel_rfl)) ?_
  intro W base args ds gs before hval0 hW _ _
  have hval : ∀ (j : Nat) t v, Try.f5.params[j]? = some t → args[j]? = some v → Value.okWide Try.prog W .any base t v := hval0
  have hW' := hW
  obtain ⟨p, q, hA0, hV, rfl, hfz, hnd⟩ := hW
  have hA : DataW.TrodAll enc Try.prog W 0 (fun _ => true) true Try.f5.params.toList args.toList ds p := hA0
  rw [Try.params5] at hA hval
  obtain ⟨v0, vs0, d0, ds0, p0, q0, hargs, rfl, rfl, h0, r0⟩ := trodAll_cons hA
  obtain ⟨v1, vs1, d1, ds1, p1, q1, rfl, rfl, rfl, h1, r1⟩ := trodAll_cons r0
  obtain ⟨v2, vs2, d2, ds2, p2, q2, rfl, rfl, rfl, h2, r2⟩ := trodAll_cons r1
  obtain ⟨rfl, rfl, rfl⟩ := trodAll_nil r2
  obtain rfl : args = #[v0, v1, v2] := by cases args; simp_all
  obtain ⟨rfl, rfl⟩ := trodVars_none hV
  obtain ⟨fuel0, hf0⟩ := h0
  obtain ⟨vv0, l0, e0, hd0⟩ := open_deeds hf0
  obtain ⟨sa0, sl0, sc0, rfl⟩ := okWide_slice Try.underlying38 (hval 0 38 v0 rfl rfl)
  obtain rfl : vv0 = .slice sa0 sl0 sc0 := by simpa [Value.cells] using e0.symm
  have hvk1 := hval 1 28 v1 rfl rfl
  simp only [Value.okWide, Try.underlying28] at hvk1
  obtain ⟨kc1, rfl, _, _⟩ := hvk1
  obtain ⟨fuel1, hf1⟩ := h1
  obtain ⟨k1, ek1, wk1⟩ := open_key hf1
  obtain rfl : kc1 = #[.int .u8 k1.kind, .string k1.name] := by
      apply Array.toList_inj.1
      simpa [Value.cells] using ek1
  obtain ⟨a2, rfl, rfl, rfl, w2⟩ := open_int Try.underlying5 (hval 2 5 v2 rfl rfl) h2
  clear hA0
  refine (walk _ l0 k1 a2 (by simpa [Lit.wf, IntKind.min, IntKind.max, IntKind.signed, IntKind.bits] using w2) W hd0).mono fun e W' ⟨he, hb⟩ => ?_
  subst he
  exact ⟨_, rfl, law_post rfl hW' laidOut (by rw [Try.params5]; simp only [List.mem_cons, List.not_mem_nil, or_false]; rintro t (rfl | rfl | rfl) <;> exact ⟨by kernel_rfl, of_decide_eq_true (by kernel_rfl)⟩) (by kernel_rfl) Try.underlying4 rfl hb⟩

theorem over : Rows.workqFailsRow.holds Try.pinned (OpenSpec.ofChange Rows.workqFailsSpec) :=
  OpenClaim.holds_of_wide 5 Try.f5 rfl rfl rfl rfl rfl rfl rfl ⟨rfl, rfl, rfl, rfl, rfl⟩ rfl rfl rfl rfl rfl (by kernel_rfl) Try.func5 (by kernel_rfl)
    (of_decide_eq_true (by kernel_rfl)) (by unfold Func.isWrapper; first | (rw [if_pos (by decide +kernel)]; kernel_rfl) | (rw [if_neg (by decide +kernel)]; exact ⟨rfl, rfl⟩))
    (fun os started H enc _ => lifted os started H enc)
theorem proved : Rows.WorkqFailsSaid := over
end workqFails
theorem workqFails_holds : Rows.WorkqFailsSaid := workqFails.proved
#print axioms workqFails_holds

end Go.Proofs.Ytemeedfldapcjaa
