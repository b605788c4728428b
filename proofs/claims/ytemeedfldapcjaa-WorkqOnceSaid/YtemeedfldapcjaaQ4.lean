/- A part of the walks: contracts of functions. -/
import Derived.Test.YtemeedfldapcjaaQ3
namespace Go.Proofs.Ytemeedfldapcjaa
open Go.RowKit
set_option linter.unusedVariables false
set_option linter.unusedSimpArgs false

theorem cf31 (a b c : Value) (w : World) : (callFunc 31 #[a, b, c]).run Try.prog w = .ok (.enter 31 #[a, b, c]) w := by
  go_simp

def WQ.fail (q : WQ) (k : GKey) (now : Int) : WQ := q.ins k (failDue now (q.failN k)) (assocPut q.fails k (q.failN k))

set_option maxRecDepth 100000 in
set_option maxHeartbeats 1000000 in
theorem fail_any (L : QLoc) (q : WQ) (k : GKey) (now : Int) (w : World) (h : QAt w L q) (hnx : 0 ≤ q.next ∧ q.next < 1000000000) (hfl : 0 ≤ (assoc q.fails k).getD 0 ∧ (assoc q.fails k).getD 0 ≤ 40) (hnow : 0 ≤ now ∧ now ≤ topU) :
    Calls Try.prog 15 #[.pointer (some ⟨L.bq, 0, none⟩), .agg #[.int .u8 k.kind, .string k.name], .int .u64 now] w fun e w' =>
      e = .returned (.int .i64 (q.code k)) ∧ QAt w' L (q.fail k now) ∧ Keeps L.mine w w' := by
  have l1 := heap_lt h.hd
  have l2 : L.bw < w.heap.size := by obtain ⟨_, _, x, _⟩ := h.hw; exact heap_lt x
  have l3 : L.bf < w.heap.size := by obtain ⟨_, _, x, _⟩ := h.hf; exact heap_lt x
  have e1 : (w.alloc (.cells #[.pointer (some ⟨L.bq, 0, none⟩)] 29)).heap.size = w.heap.size + 1 := by simp
  have e2 : ((w.alloc (.cells #[.pointer (some ⟨L.bq, 0, none⟩)] 29)).alloc (.cells #[.int .u8 k.kind, .string k.name] 28)).heap.size = w.heap.size + 1 + 1 := by simp
  have h' := h.keep ((((Keeps.refl (fun _ => False) w).alloc (.cells #[.pointer (some ⟨L.bq, 0, none⟩)] 29)).alloc (.cells #[.int .u8 k.kind, .string k.name] 28)).alloc (.cells #[.int .u64 now] 23)) (by simp) (by simp) (by simp)
  have H := Lib.hid (put_any L q k 31 #[.pointer (some ⟨w.heap.size, 0, none⟩), .pointer (some ⟨w.heap.size + 1, 0, none⟩), .pointer (some ⟨w.heap.size + 1 + 1, 0, none⟩)] _ _ _ h' hnx
    (fail1_any _ L q k now w.heap.size (w.heap.size + 1) (w.heap.size + 1 + 1) hfl hnow
      ((heap_alloc_lt (by rw [e2]; omega)).trans ((heap_alloc_lt (by rw [e1]; omega)).trans heap_alloc_eq)) ((heap_alloc_lt (by rw [e2]; omega)).trans (by rw [← e1]; exact heap_alloc_eq)) (by rw [← e2]; exact heap_alloc_eq)
      (by simp [QLoc.mine]; omega) (by simp [QLoc.mine]; omega) (by simp [QLoc.mine]; omega)) (cf31 _ _ _))
  clear hnx hfl hnow h' e1 e2
  go_enter Try.func15, Try.ntmps15
  go_wp2_with fail
  refine (H.out).mono ?_
  rintro e w' ⟨rfl, h1, h2⟩
  go_wp2
  go_ret
  exact ⟨rfl, h1, ((((Keeps.refl L.mine w).alloc _).alloc _).alloc _).trans h2⟩

def kA : GKey := ⟨3, ⟨#[97]⟩⟩
def q0 : WQ := ⟨[], [], 0⟩
theorem q1_is : q0.fail kA 10 = ⟨[(kA, (1, 11))], [(kA, 1)], 1⟩ := by rfl
theorem q2_is : (WQ.mk [(kA, (1, 11))] [(kA, 1)] 1).fail kA 10 = ⟨[(kA, (1, 12))], [(kA, 2)], 1⟩ := by rfl
theorem q3_is : (WQ.mk [(kA, (1, 12))] [(kA, 2)] 1).fail kA 10 = ⟨[(kA, (1, 14))], [(kA, 3)], 1⟩ := by rfl

theorem QLoc.above {L : QLoc} {w w0 w' : World} (h : Keeps L.mine w w') (hw : Below w0.heap.size w0 w) (h1 : w0.heap.size ≤ L.bq) (h2 : w0.heap.size ≤ L.bw) (h3 : w0.heap.size ≤ L.bf) : Below w0.heap.size w0 w' :=
  hw.trans ⟨h.os, h.tape, h.output, h.size, fun k hk => h.block k (Nat.lt_of_lt_of_le hk hw.size) (by simp [QLoc.mine]; omega)⟩


/-- a failure of 'a' at 10: in the walk's own words -/
theorem failA (L : QLoc) (q q' : WQ) (w : World) (b : Nat) (B : Nat) (W0 : World) (h : QAt w L q) (e1 : q.fail kA 10 = q') (e2 : q.code kA = 0) (h1 : 0 ≤ q.next ∧ q.next < 1000000000) (h2 : 0 ≤ (assoc q.fails kA).getD 0 ∧ (assoc q.fails kA).getD 0 ≤ 40)
    (hb : w.heap[b]? = some (.cells #[.int .u8 3, .string ⟨#[97]⟩] 28)) (hbn : ¬ L.mine b) (hB : Below B W0 w) (hBe : B = W0.heap.size) (hL : B ≤ L.bq ∧ B ≤ L.bw ∧ B ≤ L.bf) :
    Calls Try.prog 15 #[.pointer (some ⟨L.bq, 0, none⟩), .agg #[.int .u8 3, .string ⟨#[97]⟩], .int .u64 10] w fun e w' =>
      e = .returned (.int .i64 0) ∧ Hid (QAt w' L q') ∧ w'.heap[b]? = some (.cells #[.int .u8 3, .string ⟨#[97]⟩] 28) ∧ w'.cell? ⟨b, 0, none⟩ = some (.int .u8 3) ∧ w'.cell? ⟨b, 1, none⟩ = some (.string ⟨#[97]⟩) ∧ Hid (Below B W0 w') := by
  refine (fail_any L q kA 10 w h h1 h2 (by decide)).mono ?_
  rintro e w' ⟨rfl, hq, hk⟩
  have hb' := (hk.block _ (heap_lt hb) hbn).trans hb
  subst hBe
  exact ⟨by rw [e2], by rw [← e1]; exact hq, hb', (cells_of_block hb' 0 _ rfl).1, (cells_of_block hb' 1 _ rfl).1, QLoc.above hk hB hL.1 hL.2.1 hL.2.2⟩

set_option maxRecDepth 100000 in
set_option maxHeartbeats 1000000 in
theorem live_any (w : World) : Calls Try.prog 11 #[] w fun e w' => e = .returned (.bool true) ∧ Below w.heap.size w w' := by
  go_enter Try.func11, Try.ntmps11
  go_wp2_with fail
  refine (new_any w).mono ?_
  rintro e w1 ⟨L, rfl, hq, hb, g1, g2, g3⟩
  have HB := Lib.hid hb
  clear hb
  have l1 := heap_lt hq.hd
  have l2 : L.bw < w1.heap.size := by obtain ⟨_, _, x, _⟩ := hq.hw; exact heap_lt x
  have l3 : L.bf < w1.heap.size := by obtain ⟨_, _, x, _⟩ := hq.hf; exact heap_lt x
  have hq' := hq.keep ((Keeps.refl (fun _ => False) w1).alloc (.cells #[.int .u8 3, .string ⟨#[97]⟩] 28)) (by simp) (by simp) (by simp)
  have HQ := Lib.hid hq'
  have hk0 : (w1.alloc (.cells #[.int .u8 3, .string ⟨#[97]⟩] 28)).heap[w1.heap.size]? = some (.cells #[.int .u8 3, .string ⟨#[97]⟩] 28) := heap_alloc_eq
  have HB1 := Lib.hid ((HB.out).alloc (HB.out.size) (.cells #[.int .u8 3, .string ⟨#[97]⟩] 28))
  have hnm : ¬ L.mine w1.heap.size := by simp [QLoc.mine]; omega
  have HN := Lib.hid hnm
  have hgg := And.intro g1 (And.intro g2 g3)
  have HG := Lib.hid hgg
  clear hq hq' HB hnm hgg g1 g2 g3
  go_wp2_with fail
  refine (failA L q0 _ _ _ _ w HQ.out q1_is rfl (by decide) (by decide) hk0 HN.out HB1.out rfl HG.out).mono ?_
  generalize w1.alloc (.cells #[.int .u8 3, .string ⟨#[97]⟩] 28) = W1 at *
  clear hk0 HB1 HQ
  rintro e w2 ⟨rfl, HQ2, hk2, c0, c1, HB2⟩
  go_wp2_with fail
  refine (failA L _ _ _ _ _ w HQ2.out q2_is rfl (by decide) (by decide) hk2 HN.out HB2.out rfl HG.out).mono ?_
  clear hk2 HB2 HQ2 c0 c1
  rintro e w3 ⟨rfl, HQ3, hk3, c0, c1, HB3⟩
  go_wp2_with fail
  refine (failA L _ _ _ _ _ w HQ3.out q3_is rfl (by decide) (by decide) hk3 HN.out HB3.out rfl HG.out).mono ?_
  clear hk3 HB3 HQ3 c0 c1
  rintro e w4 ⟨rfl, HQ4, hk4, c0, c1, HB4⟩
  go_wp2_with fail
  refine (due_any L _ kA w4 HQ4.out).mono ?_
  rintro e w5 ⟨rfl, hb5⟩
  have HQ5 := Lib.hid ((HQ4.out).keep (Keeps.of_below (F := fun _ => False) hb5) (by simp) (by simp) (by simp))
  have HB5 := Lib.hid ((HB4.out).trans (hb5.mono (HB4.out).size))
  clear hb5 HQ4 HB4 c0 c1 hk4
  go_wp2_with fail
  refine (len_any L _ w5 HQ5.out).mono ?_
  rintro e w6 ⟨rfl, rfl⟩
  go_wp2_with fail
  refine (delay_any 1 w5 (by decide) (by decide)).mono ?_
  rintro e w6 ⟨rfl, rfl⟩
  go_wp2
  go_ret
  exact ⟨rfl, HB5.out⟩
end Go.Proofs.Ytemeedfldapcjaa
