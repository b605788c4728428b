/- wharfingerlaw08.WorkqForks answers true for every two rows of deeds, and its arguments read as before. No condition. -/
import Derived.Test.YtemeedfldapcjaaT5
import Derived.Test.YtemeedfldapcjaaLaw
import Derived.Lib.SmallJoins
import Derived.WalkMore
import Derived.OwnWalk
import Derived.RegionTactic
namespace Go.Proofs.Ytemeedfldapcjaa
open Go.RowKit
set_option linter.unusedVariables false
set_option linter.unusedSimpArgs false
theorem DeedsAt.below {w w' : World} {v : Value} {ds : List Deed} (h : DeedsAt w v ds) (hb : Below w.heap.size w w') : DeedsAt w' v ds := by
  obtain ⟨⟨ao, cap, hv, h1, h2, h3⟩, hn⟩ := h
  refine ⟨⟨ao, cap, hv, h1, h2, fun h0 => ?_⟩, hn⟩
  obtain ⟨a, ha, hlt, hc⟩ := h3 h0
  exact ⟨a, ha, Nat.lt_of_lt_of_le hlt hb.size, fun j hj o ho => (hb.cell (p := (a.add (j * 4)).add o) (by rw [add_block, add_block]; exact hlt)).trans (hc j hj o ho)⟩

namespace workqForks
open Go.ChangeShapes Go.WideShapes Go.ChangeAt Go.RowKit

/-- the queues, and their forks -/
structure FK (w wr : World) (L : QLoc) (R : RLoc) (q : WQ) (r : RQ) (M : QLoc) (T : RLoc) (q' : WQ) (r' : RQ) (h0 : Nat) (n : Nat) : Prop where
  b : Below w.heap.size w wr
  one : Both wr L R q r 60
  two : Both wr M T q' r' n
  lo : ∀ k, mine2 L R k → k < h0
  hi : ∀ k, mine2 M T k → h0 ≤ k
  le : w.heap.size ≤ h0
  le2 : h0 ≤ wr.heap.size

theorem FK.did {w wr w' : World} {L : QLoc} {R : RLoc} {q : WQ} {r : RQ} {M : QLoc} {T T' : RLoc} {q' q2 : WQ} {r' r2 : RQ} {h0 n : Nat} (h : FK w wr L R q r M T q' r' h0 n) (hb : Both w' M T' q2 r2 (n + 1)) (hk : Keeps (mine2 M T) wr w') (hn : T.Next T' wr) :
    FK w w' L R q r M T' q2 r2 h0 (n + 1) := by
  have hd : ∀ k, mine2 L R k → ¬ mine2 M T k := fun k h1 h2 => by have := h.lo k h1; have := h.hi k h2; omega
  refine ⟨below_mine h.b hk (fun i hi => Nat.le_trans h.le (h.hi i hi)), ⟨h.one.qa.keepM hk (fun k hk => hd k (.inl hk)), h.one.ra.keep hk (fun k hk => hd k (.inr hk)), h.one.rel⟩, hb, h.lo, ?_, h.le, Nat.le_trans h.le2 hk.size⟩
  rintro k (h1 | h1)
  · exact h.hi k (.inl h1)
  · rcases hn.own k h1 with h2 | h2
    · exact h.hi k (.inr h2)
    · exact Nat.le_trans h.le2 h2
theorem FK.next {w wr w' : World} {L : QLoc} {R : RLoc} {q : WQ} {r : RQ} {M : QLoc} {T : RLoc} {q' : WQ} {r' : RQ} {h0 n : Nat} (h : FK w wr L R q r M T q' r' h0 n) (hb : Below wr.heap.size wr w') : FK w w' L R q r M T q' r' h0 n :=
  ⟨h.b.trans (hb.mono h.b.size), ⟨h.one.qa.keep (Keeps.of_below (F := fun _ => False) hb) (by simp) (by simp) (by simp), h.one.ra.keep (Keeps.of_below (F := fun _ => False) hb) (by simp), h.one.rel⟩,
    ⟨h.two.qa.keep (Keeps.of_below (F := fun _ => False) hb) (by simp) (by simp) (by simp), h.two.ra.keep (Keeps.of_below (F := fun _ => False) hb) (by simp), h.two.rel⟩, h.lo, h.hi, h.le, Nat.le_trans h.le2 hb.size⟩

set_option maxRecDepth 100000 in
set_option maxHeartbeats 4000000 in
theorem walk (v : Value) (ds : List Deed) (v2 : Value) (ds2 : List Deed) (w : World) (h : DeedsAt w v ds) (h2 : DeedsAt w v2 ds2) : Calls Try.prog 9 #[v, v2] w fun e w' => e = .returned (.bool true) ∧ Below w.heap.size w w' := by
  have H := play_any v ds w h
  obtain ⟨⟨ao, cap, rfl, _⟩, _⟩ := h
  obtain ⟨⟨ao2, cap2, rfl, hc1, hc2, hsl⟩, hnow⟩ := h2
  have HSL := Lib.hid hsl
  have HNOW := Lib.hid hnow
  unfold maxLen at hc1
  have hlen2 : ds2.length ≤ 9223372036854775807 := by omega
  clear hsl hnow
  go_enter Try.func9, Try.ntmps9
  go_wp2_with fail
  refine H.mono ?_
  clear H
  rintro e w1 ⟨L, R, q, r, rfl, hp⟩
  have HP := Lib.hid hp
  clear hp
  go_wp2_with fail
  refine (live_any w1).mono ?_
  rintro e w2 ⟨rfl, hb⟩
  have HB2 := Lib.hid (HP.out.b.trans (hb.mono HP.out.b.size))
  have HBO2 := Lib.hid (show Both w2 L R q r 60 from ⟨HP.out.both.qa.keep (Keeps.of_below (F := fun _ => False) hb) (by simp) (by simp) (by simp), HP.out.both.ra.keep (Keeps.of_below (F := fun _ => False) hb) (by simp), HP.out.both.rel⟩)
  clear hb HP
  go_wp2_with fail
  refine (fork_any L q w2 HBO2.out.qa).mono ?_
  rintro e w3 ⟨M, rfl, hm, hb, g1, g2, g3⟩
  have HM3 := Lib.hid hm
  have HMN := Lib.hid (show ∀ k, M.mine k → w2.heap.size ≤ k by rintro k (rfl | rfl | rfl) <;> assumption)
  have HR3 := Lib.hid (HBO2.out.ra.keep (Keeps.of_below (F := fun _ => False) hb) (by simp))
  have HQ3 := Lib.hid (HBO2.out.qa.keep (Keeps.of_below (F := fun _ => False) hb) (by simp) (by simp) (by simp))
  have HB3 := Lib.hid (HB2.out.trans (hb.mono HB2.out.size))
  have HS3 := Lib.hid hb.size
  have HLEN := Lib.hid (show r.l.length < 1000 ∧ r.fs.length < 1000 by
    have := HBO2.out.rel.len
    have h2 := congrArg List.length HBO2.out.rel.l
    have := HBO2.out.rel.flen
    simp at h2; omega)
  clear hm hb g1 g2 g3
  go_wp2_with fail
  refine (forkR_any R r w3 HR3.out HLEN.out.1 HLEN.out.2).mono ?_
  rintro e w4 ⟨T, rfl, ht, hb, hn⟩
  have hfk : FK w w4 L R q r M T q r w2.heap.size 60 := by
    refine ⟨HB3.out.trans (hb.mono HB3.out.size), ⟨HQ3.out.keep (Keeps.of_below (F := fun _ => False) hb) (by simp) (by simp) (by simp), HR3.out.keep (Keeps.of_below (F := fun _ => False) hb) (by simp), HBO2.out.rel⟩,
      ⟨HM3.out.keep (Keeps.of_below (F := fun _ => False) hb) (by simp) (by simp) (by simp), ht, HBO2.out.rel⟩, ?_, ?_, HB2.out.size, Nat.le_trans HS3.out hb.size⟩
    · rintro k (h | h)
      · exact HBO2.out.qa.lt k h
      · exact HBO2.out.ra.lt k h
    · rintro k (h | h)
      · exact HMN.out k h
      · exact Nat.le_trans HS3.out (hn k h)
  have HFK := Lib.hid hfk
  clear ht hb hn hfk HM3 HMN HR3 HQ3 HB3 HS3 HLEN HBO2 HB2
  generalize hh0 : w2.heap.size = h0 at *
  clear hh0
  generalize htq : T.rq = tq at *
  have HTQ := Lib.hid htq
  clear htq
  go_wp2_with fail
  go_loopw [10] (fun i wr => ∃ (j : Nat) (T : RLoc) (q' : WQ) (r' : RQ), j ≤ 20 ∧ j ≤ ds2.length ∧ i = .int .i64 j ∧ Hid (T.rq = tq) ∧ Hid (FK w wr L R q r M T q' r' h0 (60 + j))) (fun i _ => 60 - (intOf i).toNat)
  case atStart => exact ⟨0, T, q, r, by omega, by omega, rfl, HTQ, HFK⟩
  case round =>
    obtain ⟨j, T, q', r', hj, hjd, rfl, hrq, hF⟩ := hrel
    clear HFK HTQ
    by_cases hlt : j < ds2.length ∧ j < 20
    · obtain ⟨hl1, hl2⟩ := hlt
      obtain ⟨a, rfl, hab, hcell⟩ := HSL.out (by omega)
      have hl1' : (j : Int) < ds2.length := by omega
      have hl2' : (j : Int) < 20 := by omega
      have hab2 : (a.add (j * 4)).block < w.heap.size := by rw [add_block]; exact hab
      generalize ha : a.add (j * 4) = A at *
      have hcell' := fun o ho => (hF.out.b.cell (p := A.add o) (by rw [add_block]; exact hab2)).trans (ha ▸ hcell j hl1 o ho)
      have x0 := hcell' 0 (by omega)
      have x1 := hcell' 1 (by omega)
      have x2 := hcell' 2 (by omega)
      have x3 := hcell' 3 (by omega)
      simp [Addr.add] at x0 x1 x2 x3
      subst ha
      clear hcell'
      clear hcell hab
      have HD := Lib.hid (HNOW.out ds2[j] (List.getElem_mem hl1))
      clear hab2
      have HDO := Lib.hid (do_any M T q' r' (60 + j) ds2[j].1 ds2[j].2.1 ds2[j].2.2 wr hF.out.two (by omega) HD.out)
      rw [hrq.out] at HDO
      go_wp2_with fail
      refine (HDO.out).mono ?_
      rintro e w5 ⟨rfl, q2, r2, T2, hb5, hk5, hn5⟩
      have HF5 := Lib.hid (hF.out.did hb5 hk5 hn5)
      have HRQ5 := Lib.hid (hn5.rq.trans hrq.out)
      clear hb5 hk5 hn5 x0 x1 x2 x3 HDO
      go_wp2
      go_roundw
      case rel => exact ⟨j + 1, T2, q2, r2, by omega, by omega, by simp, HRQ5, HF5⟩
      case measure => simp [intOf]; omega
    · have hx0 : (wr.alloc (.cells #[.int .u8 3, .string ⟨#[97]⟩] 28)).heap[wr.heap.size]? = some (.cells #[.int .u8 3, .string ⟨#[97]⟩] 28) := heap_alloc_eq
      have HX0 := Lib.hid hx0
      have HF1 := Lib.hid (hF.out.next ((Below.refl _ _).alloc (Nat.le_refl _) (.cells #[.int .u8 3, .string ⟨#[97]⟩] 28)))
      clear hx0
      by_cases hl1 : j < ds2.length
      · have hl1' : (j : Int) < ds2.length := by omega
        have hl2' : ¬ (j : Int) < 20 := by omega
        clear HSL
        go_wp2_with fail
        refine (same_any L R q r 60 ⟨3, ⟨#[97]⟩⟩ _ HF1.out.one (by omega)).mono ?_
        rintro e w6 ⟨rfl, hb⟩
        have HF6 := Lib.hid (HF1.out.next hb)
        have hx6 := (hb.block _ (heap_lt HX0.out)).trans HX0.out
        obtain ⟨b0, _⟩ := cells_of_block hx6 0 _ rfl
        obtain ⟨b1, _⟩ := cells_of_block hx6 1 _ rfl
        simp only [List.getElem_toArray, List.getElem_cons_zero, List.getElem_cons_succ] at b0 b1
        clear hb hx6
        have HSA := Lib.hid (same_any M T q' r' (60 + j) ⟨3, ⟨#[97]⟩⟩ w6 HF6.out.two (by omega))
        rw [hrq.out] at HSA
        go_wp2_with fail
        refine (HSA.out).mono ?_
        rintro e w7 ⟨rfl, hb⟩
        have HF7 := Lib.hid (HF6.out.next hb)
        clear hb b0 b1
        go_wp2
        go_ret
        exact ⟨ret_true (by simp), HF7.out.b⟩
      · have hl1' : ¬ (j : Int) < ds2.length := by omega
        clear HSL
        go_wp2_with fail
        refine (same_any L R q r 60 ⟨3, ⟨#[97]⟩⟩ _ HF1.out.one (by omega)).mono ?_
        rintro e w6 ⟨rfl, hb⟩
        have HF6 := Lib.hid (HF1.out.next hb)
        have hx6 := (hb.block _ (heap_lt HX0.out)).trans HX0.out
        obtain ⟨b0, _⟩ := cells_of_block hx6 0 _ rfl
        obtain ⟨b1, _⟩ := cells_of_block hx6 1 _ rfl
        simp only [List.getElem_toArray, List.getElem_cons_zero, List.getElem_cons_succ] at b0 b1
        clear hb hx6
        have HSA := Lib.hid (same_any M T q' r' (60 + j) ⟨3, ⟨#[97]⟩⟩ w6 HF6.out.two (by omega))
        rw [hrq.out] at HSA
        go_wp2_with fail
        refine (HSA.out).mono ?_
        rintro e w7 ⟨rfl, hb⟩
        have HF7 := Lib.hid (HF6.out.next hb)
        clear hb b0 b1
        go_wp2
        go_ret
        exact ⟨ret_true (by simp), HF7.out.b⟩

theorem own : ownKnob Try.prog.godebug = none := by kernel_rfl
theorem laidOut : laidOutB Try.prog = true := by kernel_rfl
set_option maxRecDepth 100000 in
theorem lifted (os : Os) (started : os.Started) (H : Type) (enc : TypeId × Value → H) :
    ReturnsInHanded {} Try.checked os 9 .any (Rows.workqForksSpec.pre6 enc Try.prog Try.f9 Rows.workqForksRow.domain false) (Rows.workqForksSpec.post enc Try.prog Try.f9 false true false false) := by
  refine returnsInHanded_of_change (C := Try.checked) own started (by kernel_rfl) Try.func9
    (ChangeSpec.witness6 (enc := enc) (C := Try.checked) false ⟨#[], #[.slice none 0 0, .slice none 0 0], []⟩ 8 (by kernel_rfl) (by kernel_rfl) (by kernel_rfl) (by kernel_rfl)) ?_
  intro W base args ds gs before hval0 hW _ _
  have hval : ∀ (j : Nat) t v, Try.f9.params[j]? = some t → args[j]? = some v → Value.okWide Try.prog W .any base t v := hval0
  have hW' := hW
  obtain ⟨p, q, hA0, hV, rfl, hfz, hnd⟩ := hW
  have hA : DataW.TrodAll enc Try.prog W 0 (fun _ => true) true Try.f9.params.toList args.toList ds p := hA0
  rw [Try.params9] at hA hval
  obtain ⟨v0, vs0, d0, ds0, p0, q0, hargs, rfl, rfl, h0, r0⟩ := trodAll_cons hA
  obtain ⟨v1, vs1, d1, ds1, p1, q1, rfl, rfl, rfl, h1, r1⟩ := trodAll_cons r0
  obtain ⟨rfl, rfl, rfl⟩ := trodAll_nil r1
  obtain rfl : args = #[v0, v1] := by cases args; simp_all
  obtain ⟨rfl, rfl⟩ := trodVars_none hV
  obtain ⟨fuel0, hf0⟩ := h0
  obtain ⟨vv0, l0, e0, hd0⟩ := open_deeds hf0
  obtain ⟨sa0, sl0, sc0, rfl⟩ := okWide_slice Try.underlying38 (hval 0 38 v0 rfl rfl)
  obtain rfl : vv0 = .slice sa0 sl0 sc0 := by simpa [Value.cells] using e0.symm
  obtain ⟨fuel1, hf1⟩ := h1
  obtain ⟨vv1, l1, e1, hd1⟩ := open_deeds hf1
  obtain ⟨sa1, sl1, sc1, rfl⟩ := okWide_slice Try.underlying38 (hval 1 38 v1 rfl rfl)
  obtain rfl : vv1 = .slice sa1 sl1 sc1 := by simpa [Value.cells] using e1.symm
  clear hA0
  refine (walk _ l0 _ l1 W hd0 hd1).mono fun e W' ⟨he, hb⟩ => ?_
  subst he
  exact ⟨_, rfl, law_post rfl hW' laidOut (by rw [Try.params9]; simp only [List.mem_cons, List.not_mem_nil, or_false]; rintro t (rfl | rfl) <;> exact ⟨by kernel_rfl, of_decide_eq_true (by kernel_rfl)⟩) (by kernel_rfl) Try.underlying4 rfl hb⟩

theorem over : Rows.workqForksRow.holds Try.pinned (OpenSpec.ofChange Rows.workqForksSpec) :=
  OpenClaim.holds_of_wide 9 Try.f9 rfl rfl rfl rfl rfl rfl rfl ⟨rfl, rfl, rfl, rfl, rfl⟩ rfl rfl rfl rfl rfl (by kernel_rfl) Try.func9 (by kernel_rfl)
    (of_decide_eq_true (by kernel_rfl)) (by unfold Func.isWrapper; first | (rw [if_pos (by decide +kernel)]; kernel_rfl) | (rw [if_neg (by decide +kernel)]; exact ⟨rfl, rfl⟩))
    (fun os started H enc _ => lifted os started H enc)
theorem proved : Rows.WorkqForksSaid := over
end workqForks
theorem workqForks_holds : Rows.WorkqForksSaid := workqForks.proved
#print axioms workqForks_holds

end Go.Proofs.Ytemeedfldapcjaa
