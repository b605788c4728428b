/- A part of the walks: contracts of functions. -/
import Derived.Test.YtemeedfldapcjaaQ2
import Derived.Laws.Bits64
namespace Go.Proofs.Ytemeedfldapcjaa
open Go.RowKit
set_option linter.unusedVariables false
set_option linter.unusedSimpArgs false

theorem len_any (L : QLoc) (q : WQ) (w : World) (h : QAt w L q) :
    Calls Try.prog 16 #[.pointer (some ⟨L.bq, 0, none⟩)] w fun e w' => e = .returned (.int .i64 q.waits.length) ∧ w = w' := by
  obtain ⟨hd, ⟨es, c, hbw, hr⟩, _, _⟩ := h
  obtain ⟨c0, f0⟩ := cells_of_block hd 0 (.map (some L.bw)) rfl
  have hN := run_mapLen Try.underlying59 hr w #[59] 3 rfl hbw
  clear hr hd
  go_enter Try.func16, Try.ntmps16
  go_wp2
  go_ret
  exact ⟨rfl, rfl⟩

set_option maxRecDepth 100000 in
set_option maxHeartbeats 1000000 in
theorem fails_any (L : QLoc) (q : WQ) (k : GKey) (w : World) (h : QAt w L q) :
    Calls Try.prog 17 #[.pointer (some ⟨L.bq, 0, none⟩), .agg #[.int .u8 k.kind, .string k.name]] w fun e w' => e = .returned (.int .i64 ((assoc q.fails k).getD 0)) ∧ Below w.heap.size w w' := by
  obtain ⟨hd, _, ⟨es, c, hbw, hr⟩, _⟩ := h
  obtain ⟨c0, f0⟩ := cells_of_block hd 1 (.map (some L.bf)) rfl
  have hlw := heap_lt hbw
  have hbq := heap_lt hd
  have hL := run_lookup keyOK Try.underlying60 0 zero3 hr k ((w.alloc (.cells #[.int .u8 k.kind, .string k.name] 28)).drew) ((heap_alloc_lt hlw).trans hbw)
  clear hr hd
  go_enter Try.func17, Try.ntmps17
  go_wp2
  refine wp_region_T 6 (by kernel_rfl) (by kernel_rfl) ?_
  simp only [List.take_succ_cons, List.take_zero, List.drop_succ_cons, List.drop_zero]
  refine wpStill_step (fun K hK => ?_)
  go_simp
  refine hK _ ?_
  clear hK K
  refine wpStill_step (fun K hK => ?_)
  go_simp
  refine hK _ ?_
  clear hK K
  refine wpStill_step (fun K hK => ?_)
  go_simp
  refine hK _ ?_
  clear hK K
  refine wpStill_step (fun K hK => ?_)
  go_simp
  refine hK _ ?_
  clear hK K
  refine wpStill_step (fun K hK => ?_)
  go_simp
  refine hK _ ?_
  clear hK K
  refine wpStill_step (fun K hK => ?_)
  go_simp
  refine hK _ ?_
  clear hK K
  refine wpStill_nil ?_
  go_wp2
  go_ret
  exact ⟨rfl, ((Below.refl _ _).alloc (by simp) _).drew⟩

set_option maxRecDepth 100000 in
set_option maxHeartbeats 1000000 in
theorem forget_any (L : QLoc) (q : WQ) (k : GKey) (w : World) (h : QAt w L q) :
    Calls Try.prog 19 #[.pointer (some ⟨L.bq, 0, none⟩), .agg #[.int .u8 k.kind, .string k.name]] w fun e w' => e = .returned (.int .i64 0) ∧ QAt w' L { q with fails := assocDel q.fails k } ∧ Keeps L.mine w w' := by
  obtain ⟨a1, a2⟩ := h.apart
  obtain ⟨hd, ⟨ew, cw, hbw, hrw⟩, ⟨es, c, hbf, hr⟩, hne⟩ := h
  obtain ⟨c0, f0⟩ := cells_of_block hd 1 (.map (some L.bf)) rfl
  have hlf := heap_lt hbf
  have hlw := heap_lt hbw
  have hbq := heap_lt hd
  obtain ⟨es', c', hr', hdel⟩ := run_mapDelete keyOK Try.underlying60 hr k
  have hD := hdel L.bf ((w.alloc (.cells #[.int .u8 k.kind, .string k.name] 28)).drew) #[60, 28] 0 rfl ((heap_alloc_lt hlf).trans hbf)
  have HR := Lib.hid hr'
  have HW := Lib.hid hrw
  have Hd := Lib.hid hd
  have HB := Lib.hid hbw
  clear hr hr' hrw hd hdel hbw
  go_enter Try.func19, Try.ntmps19
  go_wp2
  refine wp_region_T 5 (by kernel_rfl) (by kernel_rfl) ?_
  simp only [List.take_succ_cons, List.take_zero, List.drop_succ_cons, List.drop_zero]
  refine wpStill_step (fun K hK => ?_)
  go_simp
  refine hK _ ?_
  clear hK K
  refine wpStill_step (fun K hK => ?_)
  go_simp
  refine hK _ ?_
  clear hK K
  refine wpStill_step (fun K hK => ?_)
  go_simp
  refine hK _ ?_
  clear hK K
  refine wpStill_step (fun K hK => ?_)
  go_simp
  refine hK _ ?_
  clear hK K
  refine wpStill_step (fun K hK => ?_)
  go_simp
  refine hK _ ?_
  clear hK K
  refine wpStill_nil ?_
  go_wp2
  go_ret
  refine ⟨rfl, ⟨?_, ⟨ew, cw, ?_, HW.out⟩, ⟨es', c', Wset_same ?_, HR.out⟩, hne⟩, ?_⟩
  · exact (Wset_ne a2).trans ((heap_alloc_lt hbq).trans Hd.out)
  · exact (Wset_ne hne).trans ((heap_alloc_lt hlw).trans HB.out)
  · show L.bf < (w.alloc _).heap.size; simp; omega
  · exact (((Keeps.refl L.mine w).alloc _).drew).wset (fun _ => .inr (.inr rfl)) _

/-- how often a key has failed behind one failure more, and when it is due -/
def WQ.failN (q : WQ) (k : GKey) : Int := min ((assoc q.fails k).getD 0 + 1) 40
def topU : Int := 18446744073709551615
def failDue (now n : Int) : Int := now + min (delayB n) (topU - now)

theorem xor_top (now : Int) (h0 : 0 ≤ now) (h1 : now ≤ topU) : bits BinOp.xor IntKind.u64 IntKind.u64.max now = topU - now := by
  unfold topU at *
  obtain ⟨m, rfl⟩ := Int.eq_ofNat_of_zero_le h0
  have hm : m ≤ 18446744073709551615 := by omega
  have e : IntKind.u64.max = ((18446744073709551615 : Nat) : Int) := by decide
  rw [e, bits_xor_u64_nat _ _ (by omega) (by omega)]
  have : 18446744073709551615 ^^^ m = 18446744073709551615 - m := by
    have h2 : m < 2 ^ 64 := by omega
    have := Nat.xor_comm
    apply Nat.eq_of_testBit_eq
    intro i
    rw [Nat.testBit_xor, show 18446744073709551615 - m = 2 ^ 64 - (m + 1) by omega, Nat.testBit_two_pow_sub_succ h2, show (18446744073709551615 : Nat) = 2 ^ 64 - 1 by decide, Nat.testBit_two_pow_sub_one]
    by_cases hi : i < 64
    · simp [hi]
    · have : m.testBit i = false := Nat.testBit_lt_two_pow (Nat.lt_of_lt_of_le h2 (Nat.pow_le_pow_right (by omega) (by omega)))
      simp [hi, this]
  rw [this]
  omega
theorem xor_top' (now : Int) (h0 : 0 ≤ now) (h1 : now ≤ topU) : bits BinOp.xor IntKind.u64 (if IntKind.u64.signed = true then -1 else IntKind.u64.max) now = topU - now := by
  rw [if_neg (by decide)]; exact xor_top now h0 h1
theorem due_lo (now d : Int) (h0 : 0 ≤ now) (h1 : now ≤ topU) (hd : 0 ≤ d) (h : d ≤ topU - now) : IntKind.u64.wrap (now + d) = now + d := by
  unfold topU at *
  simp [IntKind.wrap, IntKind.bits, IntKind.signed]; omega

theorem delayB_le (n : Int) : 0 ≤ delayB n ∧ delayB n ≤ 64 := by
  unfold delayB
  split
  · omega
  · have : (min (n - 1) 6).toNat ≤ 6 := by omega
    generalize (min (n - 1) 6).toNat = m at *
    have : ∀ j : Fin 7, (0 : Int) ≤ 2 ^ (j : Nat) ∧ (2 : Int) ^ (j : Nat) ≤ 64 := by decide
    exact this ⟨m, by omega⟩

set_option maxRecDepth 100000 in
set_option maxHeartbeats 1000000 in
theorem fail1_any (w : World) (L : QLoc) (q : WQ) (k : GKey) (now : Int) (bq bk bn : Nat) (hfl : 0 ≤ (assoc q.fails k).getD 0 ∧ (assoc q.fails k).getD 0 ≤ 40) (hnow : 0 ≤ now ∧ now ≤ topU)
    (h1 : w.heap[bq]? = some (.cells #[.pointer (some ⟨L.bq, 0, none⟩)] 29 (0, 0))) (h2 : w.heap[bk]? = some (.cells #[.int .u8 k.kind, .string k.name] 28 (0, 0))) (h3 : w.heap[bn]? = some (.cells #[.int .u64 now] 23 (0, 0)))
    (m1 : ¬ L.mine bq) (m2 : ¬ L.mine bk) (m3 : ¬ L.mine bn) :
    DueDoes L w q.fails 31 #[.pointer (some ⟨bq, 0, none⟩), .pointer (some ⟨bk, 0, none⟩), .pointer (some ⟨bn, 0, none⟩)] (failDue now (q.failN k)) (assocPut q.fails k (q.failN k)) := by
  intro w1 q1 hQ hqf hK
  have g1 := (hK.block _ (heap_lt h1) m1).trans h1
  have g2 := (hK.block _ (heap_lt h2) m2).trans h2
  have g3 := (hK.block _ (heap_lt h3) m3).trans h3
  obtain ⟨a1, a2⟩ := hQ.apart
  have ne1 : bq ≠ L.bf := fun e => m1 (.inr (.inr e))
  have ne2 : bk ≠ L.bf := fun e => m2 (.inr (.inr e))
  have ne3 : bn ≠ L.bf := fun e => m3 (.inr (.inr e))
  obtain ⟨hd, ⟨ew, cw, hbw, hrw⟩, ⟨es, c, hbf, hr⟩, hne⟩ := hQ
  rw [hqf] at hr
  obtain ⟨x0, y0⟩ := cells_of_block g1 0 (.pointer (some ⟨L.bq, 0, none⟩)) rfl
  obtain ⟨x1, y1⟩ := cells_of_block g2 0 (.int .u8 k.kind) rfl
  obtain ⟨x2, y2⟩ := cells_of_block g2 1 (.string k.name) rfl
  obtain ⟨x3, y3⟩ := cells_of_block g3 0 (.int .u64 now) rfl
  obtain ⟨x4, y4⟩ := cells_of_block hd 1 (.map (some L.bf)) rfl
  have hL := run_lookup keyOK Try.underlying60 0 zero3 hr k w1.drew hbf
  obtain ⟨es', c', hr', hup⟩ := run_mapUpdate keyOK Try.underlying60 hr k (q.failN k)
  have hU := hup L.bf w1.drew.drew hbf
  have HR := Lib.hid hr'
  have HW := Lib.hid hrw
  have Hd := Lib.hid hd
  have HB := Lib.hid hbw
  have hbfl := heap_lt hbf
  have Hq := Lib.hid hqf
  clear hr hr' hrw hd hup hbw h1 h2 h3 m1 m2 m3 hK g1 g2 g3 hqf
  obtain ⟨n0, n1⟩ := hfl
  obtain ⟨n2, n3⟩ := hnow
  unfold WQ.failN at *
  generalize (assoc q.fails k).getD 0 = n at *
  have hw : IntKind.i64.wrap (n + 1) = n + 1 := by simp [IntKind.wrap, IntKind.bits, IntKind.signed]; omega
  have b1 := xor_top now n2 n3
  have b2 := xor_top' now n2 n3
  have x5 : (Wset w1.drew.drew L.bf (.map es' c')).cell? ⟨bn, 0, none⟩ = some (.int .u64 now) := (Wset_cell ne3).trans x3
  by_cases h40 : n + 1 ≤ 40
  · have e : min (n + 1) 40 = n + 1 := by omega
    simp only [e] at hU HR ⊢
    clear e
    have hdl := delayB_le (n + 1)
    by_cases hx : delayB (n + 1) ≤ topU - now
    · go_enter Try.func31, Try.ntmps31
      go_wp2
      refine wp_region_T 8 (by kernel_rfl) (by kernel_rfl) ?_
      simp only [List.take_succ_cons, List.take_zero, List.drop_succ_cons, List.drop_zero]
      refine wpStill_step (fun K hK => ?_)
      go_simp
      refine hK _ ?_
      clear hK K
      refine wpStill_step (fun K hK => ?_)
      go_simp
      refine hK _ ?_
      clear hK K
      refine wpStill_step (fun K hK => ?_)
      go_simp
      refine hK _ ?_
      clear hK K
      refine wpStill_step (fun K hK => ?_)
      go_simp
      refine hK _ ?_
      clear hK K
      refine wpStill_step (fun K hK => ?_)
      go_simp
      refine hK _ ?_
      clear hK K
      refine wpStill_step (fun K hK => ?_)
      go_simp
      refine hK _ ?_
      clear hK K
      refine wpStill_step (fun K hK => ?_)
      go_simp
      refine hK _ ?_
      clear hK K
      refine wpStill_step (fun K hK => ?_)
      go_simp
      refine hK _ ?_
      clear hK K
      refine wpStill_nil ?_
      go_wp2
      refine wp_region_T 6 (by kernel_rfl) (by kernel_rfl) ?_
      simp only [List.take_succ_cons, List.take_zero, List.drop_succ_cons, List.drop_zero]
      refine wpStill_step (fun K hK => ?_)
      go_simp
      refine hK _ ?_
      clear hK K
      refine wpStill_step (fun K hK => ?_)
      go_simp
      refine hK _ ?_
      clear hK K
      refine wpStill_step (fun K hK => ?_)
      go_simp
      refine hK _ ?_
      clear hK K
      refine wpStill_step (fun K hK => ?_)
      go_simp
      refine hK _ ?_
      clear hK K
      refine wpStill_step (fun K hK => ?_)
      go_simp
      refine hK _ ?_
      clear hK K
      refine wpStill_step (fun K hK => ?_)
      go_simp
      refine hK _ ?_
      clear hK K
      refine wpStill_nil ?_
      go_wp2
      refine wp_region_T 7 (by kernel_rfl) (by kernel_rfl) ?_
      simp only [List.take_succ_cons, List.take_zero, List.drop_succ_cons, List.drop_zero]
      refine wpStill_step (fun K hK => ?_)
      go_simp
      refine hK _ ?_
      clear hK K
      refine wpStill_step (fun K hK => ?_)
      go_simp
      refine hK _ ?_
      clear hK K
      refine wpStill_step (fun K hK => ?_)
      go_simp
      refine ⟨_, (delay_any _ _ (by omega) (by omega)), hK _ ?_⟩
      clear hK K
      refine wpStill_step (fun K hK => ?_)
      go_simp
      refine hK _ ?_
      clear hK K
      refine wpStill_step (fun K hK => ?_)
      go_simp
      refine hK _ ?_
      clear hK K
      refine wpStill_step (fun K hK => ?_)
      go_simp
      refine hK _ ?_
      clear hK K
      refine wpStill_step (fun K hK => ?_)
      go_simp
      refine hK _ ?_
      clear hK K
      refine wpStill_nil ?_
      go_wp2
      go_ret
      refine ⟨ret_int ?_, ?_, ?_⟩
      · rw [due_lo _ _ n2 n3 (by omega) hx]; unfold failDue; omega
      · exact ⟨(Wset_ne a2).trans Hd.out, ⟨ew, cw, (Wset_ne hne).trans HB.out, HW.out⟩, ⟨es', c', Wset_same hbfl, HR.out⟩, hne⟩
      · exact (((((Keeps.refl (fun x => x = L.bf) w1).drew).drew).wset (fun _ => rfl) _).drew)
    · go_enter Try.func31, Try.ntmps31
      go_wp2
      refine wp_region_T 8 (by kernel_rfl) (by kernel_rfl) ?_
      simp only [List.take_succ_cons, List.take_zero, List.drop_succ_cons, List.drop_zero]
      refine wpStill_step (fun K hK => ?_)
      go_simp
      refine hK _ ?_
      clear hK K
      refine wpStill_step (fun K hK => ?_)
      go_simp
      refine hK _ ?_
      clear hK K
      refine wpStill_step (fun K hK => ?_)
      go_simp
      refine hK _ ?_
      clear hK K
      refine wpStill_step (fun K hK => ?_)
      go_simp
      refine hK _ ?_
      clear hK K
      refine wpStill_step (fun K hK => ?_)
      go_simp
      refine hK _ ?_
      clear hK K
      refine wpStill_step (fun K hK => ?_)
      go_simp
      refine hK _ ?_
      clear hK K
      refine wpStill_step (fun K hK => ?_)
      go_simp
      refine hK _ ?_
      clear hK K
      refine wpStill_step (fun K hK => ?_)
      go_simp
      refine hK _ ?_
      clear hK K
      refine wpStill_nil ?_
      go_wp2
      refine wp_region_T 6 (by kernel_rfl) (by kernel_rfl) ?_
      simp only [List.take_succ_cons, List.take_zero, List.drop_succ_cons, List.drop_zero]
      refine wpStill_step (fun K hK => ?_)
      go_simp
      refine hK _ ?_
      clear hK K
      refine wpStill_step (fun K hK => ?_)
      go_simp
      refine hK _ ?_
      clear hK K
      refine wpStill_step (fun K hK => ?_)
      go_simp
      refine hK _ ?_
      clear hK K
      refine wpStill_step (fun K hK => ?_)
      go_simp
      refine hK _ ?_
      clear hK K
      refine wpStill_step (fun K hK => ?_)
      go_simp
      refine hK _ ?_
      clear hK K
      refine wpStill_step (fun K hK => ?_)
      go_simp
      refine hK _ ?_
      clear hK K
      refine wpStill_nil ?_
      go_wp2
      refine wp_region_T 7 (by kernel_rfl) (by kernel_rfl) ?_
      simp only [List.take_succ_cons, List.take_zero, List.drop_succ_cons, List.drop_zero]
      refine wpStill_step (fun K hK => ?_)
      go_simp
      refine hK _ ?_
      clear hK K
      refine wpStill_step (fun K hK => ?_)
      go_simp
      refine hK _ ?_
      clear hK K
      refine wpStill_step (fun K hK => ?_)
      go_simp
      refine ⟨_, (delay_any _ _ (by omega) (by omega)), hK _ ?_⟩
      clear hK K
      refine wpStill_step (fun K hK => ?_)
      go_simp
      refine hK _ ?_
      clear hK K
      refine wpStill_step (fun K hK => ?_)
      go_simp
      refine hK _ ?_
      clear hK K
      refine wpStill_step (fun K hK => ?_)
      go_simp
      refine hK _ ?_
      clear hK K
      refine wpStill_step (fun K hK => ?_)
      go_simp
      refine hK _ ?_
      clear hK K
      refine wpStill_nil ?_
      go_wp2
      go_ret
      refine ⟨ret_int ?_, ?_, ?_⟩
      · rw [due_lo _ _ n2 n3 (by omega) (by omega)]; unfold failDue; omega
      · exact ⟨(Wset_ne a2).trans Hd.out, ⟨ew, cw, (Wset_ne hne).trans HB.out, HW.out⟩, ⟨es', c', Wset_same hbfl, HR.out⟩, hne⟩
      · exact (((((Keeps.refl (fun x => x = L.bf) w1).drew).drew).wset (fun _ => rfl) _).drew)
  · have e : min (n + 1) 40 = 40 := by omega
    simp only [e] at hU HR ⊢
    clear e
    have hdl := delayB_le (40)
    by_cases hx : delayB (40) ≤ topU - now
    · go_enter Try.func31, Try.ntmps31
      go_wp2
      refine wp_region_T 8 (by kernel_rfl) (by kernel_rfl) ?_
      simp only [List.take_succ_cons, List.take_zero, List.drop_succ_cons, List.drop_zero]
      refine wpStill_step (fun K hK => ?_)
      go_simp
      refine hK _ ?_
      clear hK K
      refine wpStill_step (fun K hK => ?_)
      go_simp
      refine hK _ ?_
      clear hK K
      refine wpStill_step (fun K hK => ?_)
      go_simp
      refine hK _ ?_
      clear hK K
      refine wpStill_step (fun K hK => ?_)
      go_simp
      refine hK _ ?_
      clear hK K
      refine wpStill_step (fun K hK => ?_)
      go_simp
      refine hK _ ?_
      clear hK K
      refine wpStill_step (fun K hK => ?_)
      go_simp
      refine hK _ ?_
      clear hK K
      refine wpStill_step (fun K hK => ?_)
      go_simp
      refine hK _ ?_
      clear hK K
      refine wpStill_step (fun K hK => ?_)
      go_simp
      refine hK _ ?_
      clear hK K
      refine wpStill_nil ?_
      go_wp2
      refine wp_region_T 6 (by kernel_rfl) (by kernel_rfl) ?_
      simp only [List.take_succ_cons, List.take_zero, List.drop_succ_cons, List.drop_zero]
      refine wpStill_step (fun K hK => ?_)
      go_simp
      refine hK _ ?_
      clear hK K
      refine wpStill_step (fun K hK => ?_)
      go_simp
      refine hK _ ?_
      clear hK K
      refine wpStill_step (fun K hK => ?_)
      go_simp
      refine hK _ ?_
      clear hK K
      refine wpStill_step (fun K hK => ?_)
      go_simp
      refine hK _ ?_
      clear hK K
      refine wpStill_step (fun K hK => ?_)
      go_simp
      refine hK _ ?_
      clear hK K
      refine wpStill_step (fun K hK => ?_)
      go_simp
      refine hK _ ?_
      clear hK K
      refine wpStill_nil ?_
      go_wp2
      refine wp_region_T 7 (by kernel_rfl) (by kernel_rfl) ?_
      simp only [List.take_succ_cons, List.take_zero, List.drop_succ_cons, List.drop_zero]
      refine wpStill_step (fun K hK => ?_)
      go_simp
      refine hK _ ?_
      clear hK K
      refine wpStill_step (fun K hK => ?_)
      go_simp
      refine hK _ ?_
      clear hK K
      refine wpStill_step (fun K hK => ?_)
      go_simp
      refine ⟨_, (delay_any _ _ (by omega) (by omega)), hK _ ?_⟩
      clear hK K
      refine wpStill_step (fun K hK => ?_)
      go_simp
      refine hK _ ?_
      clear hK K
      refine wpStill_step (fun K hK => ?_)
      go_simp
      refine hK _ ?_
      clear hK K
      refine wpStill_step (fun K hK => ?_)
      go_simp
      refine hK _ ?_
      clear hK K
      refine wpStill_step (fun K hK => ?_)
      go_simp
      refine hK _ ?_
      clear hK K
      refine wpStill_nil ?_
      go_wp2
      go_ret
      refine ⟨ret_int ?_, ?_, ?_⟩
      · rw [due_lo _ _ n2 n3 (by omega) hx]; unfold failDue; omega
      · exact ⟨(Wset_ne a2).trans Hd.out, ⟨ew, cw, (Wset_ne hne).trans HB.out, HW.out⟩, ⟨es', c', Wset_same hbfl, HR.out⟩, hne⟩
      · exact (((((Keeps.refl (fun x => x = L.bf) w1).drew).drew).wset (fun _ => rfl) _).drew)
    · go_enter Try.func31, Try.ntmps31
      go_wp2
      refine wp_region_T 8 (by kernel_rfl) (by kernel_rfl) ?_
      simp only [List.take_succ_cons, List.take_zero, List.drop_succ_cons, List.drop_zero]
      refine wpStill_step (fun K hK => ?_)
      go_simp
      refine hK _ ?_
      clear hK K
      refine wpStill_step (fun K hK => ?_)
      go_simp
      refine hK _ ?_
      clear hK K
      refine wpStill_step (fun K hK => ?_)
      go_simp
      refine hK _ ?_
      clear hK K
      refine wpStill_step (fun K hK => ?_)
      go_simp
      refine hK _ ?_
      clear hK K
      refine wpStill_step (fun K hK => ?_)
      go_simp
      refine hK _ ?_
      clear hK K
      refine wpStill_step (fun K hK => ?_)
      go_simp
      refine hK _ ?_
      clear hK K
      refine wpStill_step (fun K hK => ?_)
      go_simp
      refine hK _ ?_
      clear hK K
      refine wpStill_step (fun K hK => ?_)
      go_simp
      refine hK _ ?_
      clear hK K
      refine wpStill_nil ?_
      go_wp2
      refine wp_region_T 6 (by kernel_rfl) (by kernel_rfl) ?_
      simp only [List.take_succ_cons, List.take_zero, List.drop_succ_cons, List.drop_zero]
      refine wpStill_step (fun K hK => ?_)
      go_simp
      refine hK _ ?_
      clear hK K
      refine wpStill_step (fun K hK => ?_)
      go_simp
      refine hK _ ?_
      clear hK K
      refine wpStill_step (fun K hK => ?_)
      go_simp
      refine hK _ ?_
      clear hK K
      refine wpStill_step (fun K hK => ?_)
      go_simp
      refine hK _ ?_
      clear hK K
      refine wpStill_step (fun K hK => ?_)
      go_simp
      refine hK _ ?_
      clear hK K
      refine wpStill_step (fun K hK => ?_)
      go_simp
      refine hK _ ?_
      clear hK K
      refine wpStill_nil ?_
      go_wp2
      refine wp_region_T 7 (by kernel_rfl) (by kernel_rfl) ?_
      simp only [List.take_succ_cons, List.take_zero, List.drop_succ_cons, List.drop_zero]
      refine wpStill_step (fun K hK => ?_)
      go_simp
      refine hK _ ?_
      clear hK K
      refine wpStill_step (fun K hK => ?_)
      go_simp
      refine hK _ ?_
      clear hK K
      refine wpStill_step (fun K hK => ?_)
      go_simp
      refine ⟨_, (delay_any _ _ (by omega) (by omega)), hK _ ?_⟩
      clear hK K
      refine wpStill_step (fun K hK => ?_)
      go_simp
      refine hK _ ?_
      clear hK K
      refine wpStill_step (fun K hK => ?_)
      go_simp
      refine hK _ ?_
      clear hK K
      refine wpStill_step (fun K hK => ?_)
      go_simp
      refine hK _ ?_
      clear hK K
      refine wpStill_step (fun K hK => ?_)
      go_simp
      refine hK _ ?_
      clear hK K
      refine wpStill_nil ?_
      go_wp2
      go_ret
      refine ⟨ret_int ?_, ?_, ?_⟩
      · rw [due_lo _ _ n2 n3 (by omega) (by omega)]; unfold failDue; omega
      · exact ⟨(Wset_ne a2).trans Hd.out, ⟨ew, cw, (Wset_ne hne).trans HB.out, HW.out⟩, ⟨es', c', Wset_same hbfl, HR.out⟩, hne⟩
      · exact (((((Keeps.refl (fun x => x = L.bf) w1).drew).drew).wset (fun _ => rfl) _).drew)
end Go.Proofs.Ytemeedfldapcjaa
