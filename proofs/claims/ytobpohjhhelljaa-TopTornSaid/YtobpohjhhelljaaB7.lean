/- Layer 5 (blocks): a log's Crash. -/
import Derived.Test.YtobpohjhhelljaaB4
import Derived.OwnWalk
import Derived.Deep.DeepCutAuto
namespace Go.Proofs.Ytobpohjhhelljaa
open Go.RowKit
set_option linter.unusedVariables false
set_option linter.unusedSimpArgs false


def crashN (n last : Nat) (keep : Int) : Nat := last + min keep.toNat (n - last)
def crashB (bs : Bs) (n last : Nat) (keep torn : Int) : Nat × Bs :=
  if 0 < torn ∧ crashN n last keep < n then (crashN n last keep + 1, bs.take (crashN n last keep * 64 + torn.toNat) ++ List.replicate (64 - torn.toNat) 0) else (crashN n last keep, bs.take (crashN n last keep * 64))

set_option maxRecDepth 100000 in
set_option maxHeartbeats 1000000 in
theorem crash_nil (w : World) (keep torn : Int) : Calls Try.prog 37 #[.pointer none, .int .i64 keep, .int .i64 torn] w fun e w' => e = .returned (.int .i64 1) ∧ w' = w := by
  go_enter Try.func37, Try.ntmps37
  go_wp2
  go_ret
  exact ⟨rfl, rfl⟩
set_option maxRecDepth 100000 in
set_option maxHeartbeats 1000000 in
theorem crash_bad (w : World) (p : Nat) (keep torn : Int) (h : keep < 0 ∨ torn < 0 ∨ 64 < torn) : Calls Try.prog 37 #[.pointer (some ⟨p, 0, none⟩), .int .i64 keep, .int .i64 torn] w fun e w' => e = .returned (.int .i64 3) ∧ w' = w := by
  by_cases h1 : keep < 0
  · go_enter Try.func37, Try.ntmps37
    go_wp2
    go_ret
    exact ⟨rfl, rfl⟩
  by_cases h2 : torn < 0
  · go_enter Try.func37, Try.ntmps37
    go_wp2
    go_ret
    exact ⟨rfl, rfl⟩
  · have h3 : 64 < torn := by omega
    go_enter Try.func37, Try.ntmps37
    go_wp2
    go_ret
    exact ⟨rfl, rfl⟩

theorem OwnL.take {w : World} {B : Nat} {a : Option Addr} {n c M : Nat} {bs : Bs} (h : OwnL w B (.slice a n c) n bs) (hM : M ≤ n) : IsL w (.slice a M c) M (bs.take (M * 64)) := by
  have hl := h.1
  obtain ⟨_, ⟨hv, h0⟩ | ⟨b, o, c', hv, h1, h2, h3⟩⟩ := h.isL
  · simp only [Value.slice.injEq] at hv
    obtain ⟨rfl, rfl, rfl⟩ := hv
    have : M = 0 := by omega
    subst this
    exact ⟨by simp, .inl ⟨rfl, rfl⟩⟩
  · simp only [Value.slice.injEq, true_and] at hv
    obtain ⟨rfl, rfl⟩ := hv
    refine ⟨by rw [List.length_take]; omega, .inr ⟨b, o, c, rfl, by omega, h2, fun k hk => ?_⟩⟩
    rw [List.length_take] at hk
    rw [List.getElem_take]
    exact h3 k (by omega)

theorem zeroCells_b (m : Nat) : (Builtin.zeroCells (Value.int .u8 0).cells m).toList = cellsU (List.replicate m 0) := by
  apply List.ext_getElem?
  intro k
  by_cases hk : k < m
  · simp [Builtin.zeroCells, cellsU, hk, Value.cells, Nat.mod_one]
  · simp [Builtin.zeroCells, cellsU, hk, Value.cells]
theorem run_clear {w : World} {ty : TypeId} {g off m c : Nat} {cur : Array Value} {t : TypeId} (h : w.heap[g]? = some (.cells cur t (0, 0))) (hs : off + m ≤ cur.size) (hm : 0 < m) :
    (Builtin.clear_ #[41] ty #[.slice (some ⟨g, off, none⟩) m c]).run Try.prog w = .ok (.tuple #[]) (w.setRow g (cur.toList.take off ++ cellsU (List.replicate m 0) ++ cur.toList.drop (off + m)).toArray) := by
  have h1 := run_storeCells_at Try.prog g off t (cellsU (List.replicate m 0)) 0 cur w h (by simpa using hs) (cellsU_one _)
  have hz : ∀ w, (zeroValue 5).run Try.prog w = .ok (.int .u8 0) w := fun _ => by kernel_rfl
  obtain ⟨m, rfl⟩ : ∃ k, m = k + 1 := ⟨m - 1, by omega⟩
  simp only [Nat.add_zero, cellsU_length, List.length_replicate] at h1
  simp [Builtin.clear_, run_underlying und_B, hz, Result.andThen, zeroCells_b, h1]
theorem run_clear0 {w : World} {ty : TypeId} {a : Option Addr} {c : Nat} : (Builtin.clear_ #[41] ty #[.slice a 0 c]).run Try.prog w = .ok (.tuple #[]) w := by
  cases a <;> simp [Builtin.clear_, run_underlying und_B, Result.andThen]
theorem wpList_clear {ops : Array Oper} {rest : List Oper} {o : Oper} {a : Act} {w : World} {Q : Exit → Act → World → Prop} (hgd : o.guard = none) (x : Operand)
    (ho : o.op = .call { callee := .builtin .clear, args := #[x], argTypes := #[41] }) (g off m c : Nat) (hx : a.eval x = .slice (some ⟨g, off, none⟩) m c) (hm : 0 < m) (cur : Array Value) (t : TypeId) (h : w.heap[g]? = some (.cells cur t (0, 0))) (hs : off + m ≤ cur.size)
    (hK : wpList Try.prog ops Q rest (a.put o.dst (.tuple #[])) (w.setRow g (cur.toList.take off ++ cellsU (List.replicate m 0) ++ cur.toList.drop (off + m)).toArray)) : wpList Try.prog ops Q (o :: rest) a w := by
  refine wpList_plain hgd fun K hK' => ?_
  have hr := run_clear (ty := o.type) (c := c) h hs hm
  unfold Oper.wp
  simp only [execOp, ho, resolve, invoke, builtin, hx, hr, Result.andThen]
  simp [resolve, invoke, builtin, hx, hr, Result.andThen]
  (try rw [← List.append_assoc])
  exact hK' _ _ hK
theorem wpList_clear0 {ops : Array Oper} {rest : List Oper} {o : Oper} {a : Act} {w : World} {Q : Exit → Act → World → Prop} (hgd : o.guard = none) (x : Operand)
    (ho : o.op = .call { callee := .builtin .clear, args := #[x], argTypes := #[41] }) (b : Option Addr) (c : Nat) (hx : a.eval x = .slice b 0 c)
    (hK : wpList Try.prog ops Q rest (a.put o.dst (.tuple #[])) w) : wpList Try.prog ops Q (o :: rest) a w := by
  refine wpList_plain hgd fun K hK' => ?_
  have hr := run_clear0 (w := w) (ty := o.type) (a := b) (c := c)
  unfold Oper.wp
  simp [execOp, ho, resolve, invoke, builtin, hx, hr, Result.andThen]
  exact hK' _ _ hK
theorem OwnL.clear {w : World} {B g n c off m : Nat} {bs : Bs} (h : OwnL w B (.slice (some ⟨g, 0, none⟩) n c) n bs) (hoff : off + m ≤ n * 64) : ∃ cur, w.heap[g]? = some (.cells cur 91 (0, 0)) ∧ off + m ≤ cur.size ∧ B ≤ g ∧
    OwnL (w.setRow g (cur.toList.take off ++ cellsU (List.replicate m 0) ++ cur.toList.drop (off + m)).toArray) B (.slice (some ⟨g, 0, none⟩) n c) n (bs.take off ++ List.replicate m 0 ++ bs.drop (off + m)) := by
  obtain ⟨hl, hlen, ⟨hv, _⟩ | ⟨g', cap, cur, hv, hB, hg, hnc, hcm, hcs, htk⟩⟩ := h
  · cases hv
  · simp only [Value.slice.injEq, Option.some.injEq, Addr.mk.injEq, and_true, true_and] at hv
    obtain ⟨rfl, rfl⟩ := hv
    have hcs' : n * 64 ≤ cur.size := by rw [hcs]; exact Nat.mul_le_mul_right _ hnc
    have hl2 : (bs.take off ++ List.replicate m (0 : UInt8) ++ bs.drop (off + m)).length = n * 64 := by simp; omega
    refine ⟨cur, hg, by omega, hB, hl2, by rw [cellsU_length, hl2], .inr ⟨g, c, _, rfl, hB, setRow_heap w g cur _ _ _ hg, hnc, hcm, ?_, ?_⟩⟩
    · simp only [List.size_toArray, List.length_append, List.length_take, List.length_drop, Array.length_toList, cellsU_length, List.length_replicate]; omega
    · simp only [cellsU_append]
      have e1 : cur.toList.take off = cellsU (bs.take off) := by
        have : cur.toList.take off = (cur.toList.take (n * 64)).take off := by rw [List.take_take, Nat.min_eq_left (by omega)]
        rw [this, htk, cellsU, ← List.map_take]; rfl
      have e2 : (cur.toList.drop (off + m)).take (n * 64 - (off + m)) = cellsU (bs.drop (off + m)) := by
        rw [List.take_drop, show off + m + (n * 64 - (off + m)) = n * 64 by omega, htk, cellsU, ← List.map_drop]; rfl
      rw [List.take_append, List.take_of_length_le (by simp; omega), e1, ← e2]
      congr 2
      simp
      omega

theorem wpList_clearL {ops : Array Oper} {rest : List Oper} {o : Oper} {a : Act} {w : World} {Q : Exit → Act → World → Prop} (hgd : o.guard = none) (x : Operand)
    (ho : o.op = .call { callee := .builtin .clear, args := #[x], argTypes := #[41] }) (B g n cp off m c : Nat) (bs : Bs) (hx : a.eval x = .slice (some ⟨g, off, none⟩) m c) (hm : 0 < m) (h : OwnL w B (.slice (some ⟨g, 0, none⟩) n cp) n bs) (hoff : off + m ≤ n * 64)
    (hK : ∀ W, OwnL W B (.slice (some ⟨g, 0, none⟩) n cp) n (bs.take off ++ List.replicate m 0 ++ bs.drop (off + m)) → Keeps (fun i => i = g) w W → wpList Try.prog ops Q rest (a.put o.dst (.tuple #[])) W) : wpList Try.prog ops Q (o :: rest) a w := by
  obtain ⟨cur, hg, hcs, _, hrow⟩ := h.clear hoff
  exact wpList_clear hgd x ho g off m c hx hm cur _ hg hcs (hK _ hrow ⟨rfl, rfl, rfl, by simp [World.setRow], fun k _ hk => setRow_other _ _ _ _ hk⟩)

def CrashPost (w : World) (B p : Nat) (v : Value) (n' : Nat) (bs' : Bs) (most : Nat) (e : Ending) (w' : World) : Prop :=
  e = .returned (.int .i64 0) ∧ ∃ u, LogAt w' B p u n' bs' n' most ∧ (∀ k, u.ownBlock = some k → w.heap.size ≤ k) ∧ Keeps (fun i => i = p ∨ v.ownBlock = some i) w w'

set_option maxRecDepth 100000 in
set_option maxHeartbeats 2000000 in
theorem crash_keep (w : World) (B p : Nat) (v : Value) (n : Nat) (bs : Bs) (last most : Nat) (keep torn : Int) (h : LogAt w B p v n bs last most) (h1 : 0 ≤ keep) (h2 : 0 ≤ torn) (h3 : torn ≤ 64) (h4 : keep ≤ 9223372036854775807) (ht : torn = 0 ∨ n ≤ crashN n last keep) :
    Calls Try.prog 37 #[.pointer (some ⟨p, 0, none⟩), .int .i64 keep, .int .i64 torn] w (CrashPost w B p v (crashN n last keep) (bs.take (crashN n last keep * 64)) most) := by
  have H := Lib.hid h
  have hn := h.hn
  have hm := h.hm
  have hl := h.hl
  have hbl := Lib.hid h.row.1
  obtain ⟨a, c, rfl⟩ := h.lv
  have hnc := h.cap
  obtain ⟨c0, f0⟩ := cells_of_block h.cells 0 _ rfl
  obtain ⟨c1, f1⟩ := cells_of_block h.cells 1 _ rfl
  have HTT := ht
  clear ht
  have q1 : ¬ keep < 0 := by omega
  have q2 : ¬ torn < 0 := by omega
  have q3 : ¬ 64 < torn := by omega
  have hM : crashN n last keep ≤ n ∧ last ≤ crashN n last keep := by unfold crashN; omega
  obtain ⟨hM, hM2⟩ := hM
  obtain ⟨M, hMe⟩ : ∃ M, M = crashN n last keep := ⟨_, rfl⟩
  rw [← hMe]
  rw [← hMe] at hM hM2 HTT
  have HM := Lib.hid hMe
  have HTH := Lib.hid HTT
  clear HTT
  clear h hMe
  go_enter Try.func37, Try.ntmps37
  go_upto_region 5 with fail
  go_cut [7] (fun s7 wx => s7 = .int .i64 (M : Int) ∧ wx = w.drew)
  case first =>
    obtain ⟨d, hd⟩ : ∃ d : Nat, d = n - last := ⟨_, rfl⟩
    have w1 : IntKind.i64.wrap ((n : Int) - (last : Int)) = (d : Int) := (IntWalk.i64_in _ (by omega)).trans (by omega)
    have hdl : d ≤ 4096 := by omega
    by_cases hk : (d : Int) < keep
    · have w2 : IntKind.i64.wrap ((last : Int) + (d : Int)) = (M : Int) := (IntWalk.i64_in _ (by omega)).trans (by have := HM.out; unfold crashN at this; omega)
      have w3 : min keep (d : Int) = (d : Int) := by omega
      clear hd
      refine wp_region_N (fun w' => (w'.cell? ⟨p, 0, none⟩ = some (.slice a n c)) ∧ (w'.cell? ⟨p, 1, none⟩ = some (.int .i64 (last : Int))))
        [(true, 0), (true, 1), (true, 2), (true, 3), (true, 4), (true, 5), (true, 6), (true, 7), (true, 8), (true, 9), (true, 10), (true, 11), (true, 12), (true, 13), (true, 14), (true, 15), (true, 16), (true, 17)] (by kernel_rfl) (by kernel_rfl) rfl (by kernel_rfl) ?_ ?_
      · exact ⟨by go_keep, by go_keep⟩
      simp only [List.filterMap_cons, List.filterMap_nil, List.getElem?_cons_succ, List.getElem?_cons_zero, Option.map_some]
      iterate 18
       apply wpSeq_takeK _ (by first | rfl | (simp [Region.wanted, yielded]; done))
       · intro w' hS
         obtain ⟨s0, s1⟩ := hS
         skip
         go_simp
         try rfl
       intro K hK
       go_simp
       refine hK _ ?_
       clear hK K
      refine wpSeq_end ?_
      go_wp2
      go_meet
      exact ⟨rfl, rfl⟩
    · have w2 : IntKind.i64.wrap ((last : Int) + keep) = (M : Int) := (IntWalk.i64_in _ (by omega)).trans (by have := HM.out; unfold crashN at this; omega)
      have w3 : min keep (d : Int) = keep := by omega
      clear hd
      refine wp_region_N (fun w' => (w'.cell? ⟨p, 0, none⟩ = some (.slice a n c)) ∧ (w'.cell? ⟨p, 1, none⟩ = some (.int .i64 (last : Int))))
        [(true, 0), (true, 1), (true, 2), (true, 3), (true, 4), (true, 5), (true, 6), (true, 7), (true, 8), (true, 9), (true, 10), (true, 11), (true, 12), (true, 13), (true, 14), (true, 15), (true, 16), (true, 17)] (by kernel_rfl) (by kernel_rfl) rfl (by kernel_rfl) ?_ ?_
      · exact ⟨by go_keep, by go_keep⟩
      simp only [List.filterMap_cons, List.filterMap_nil, List.getElem?_cons_succ, List.getElem?_cons_zero, Option.map_some]
      iterate 18
       apply wpSeq_takeK _ (by first | rfl | (simp [Region.wanted, yielded]; done))
       · intro w' hS
         obtain ⟨s0, s1⟩ := hS
         skip
         go_simp
         try rfl
       intro K hK
       go_simp
       refine hK _ ?_
       clear hK K
      refine wpSeq_end ?_
      go_wp2
      go_meet
      exact ⟨rfl, rfl⟩
  case rest =>
    obtain ⟨rfl, rfl⟩ := hcut
    have HTT := HTH.out
    by_cases h0 : torn = 0
    · subst h0
      have q4 : ¬ (0 : Int) < 0 := by omega
      have K0 := Lib.hid (show w.drew.cell? ⟨p, 0, none⟩ = some (.slice a n c) from c0)
      have K1 := Lib.hid (show w.drew.heap[p]? = some (.cells #[.slice a n c, .int .i64 (last : Int), .int .i64 (most : Int)] 83 (0, 0)) from H.out.cells)
      have HT := Lib.hid (show IsL w.drew (.slice a M c) M (bs.take (M * 64)) from (H.out.row.take (by omega)).below (Below.refl _ w).drew)
      go_wp2_with (first
        | (go_at_call 58; refine (cloneL_any M (bs.take (M * 64)) _ _ (by omega) HT.out).mono ?_; rintro e w2 ⟨u, rfl, ho, hb⟩
           obtain ⟨d0, g0⟩ := cells_of_block ((hb.block p (heap_lt K1.out)).trans K1.out) 0 _ rfl
           obtain ⟨au, cu, rfl⟩ := ho.lv
           have HO := Lib.hid ho; have HB := Lib.hid hb; clear ho hb)
        | (go_at_call 57; refine (sync_any _ B p (.slice au M cu) M (bs.take (M * 64)) last most ⟨?cl, ⟨HO.out.1, ?rw⟩, H.out.base, by omega, by omega, hm⟩).mono ?_))
      case cl =>
        rw [heap_setCell_same ((HB.out.block p (heap_lt K1.out)).trans K1.out)]; rfl
      case rw =>
        refine ownsRow_of_heap (ownsRow_mono HO.out.2 (Nat.le_of_lt (Nat.lt_of_le_of_lt H.out.base (heap_lt H.out.cells)))) fun k hk => heap_setCell_ne fun e => ?_
        have hke : k = p := e
        have h1 := (HO.out.2.lt k hk).1
        have h2 := heap_lt H.out.cells
        have h3 : w.drew.heap.size = w.heap.size := rfl
        omega
      rintro e w4 ⟨rfl, hlog, hkeep⟩
      have HL := Lib.hid hlog
      have HK := Lib.hid hkeep
      clear hlog hkeep d0 g0
      go_wp2
      go_ret
      refine ⟨rfl, _, HL.out, fun k hk => (HO.out.2.lt k hk).1, ?_⟩
      have k1 : Keeps (fun i => i = p ∨ (Value.slice a n c).ownBlock = some i) w w2 := (Keeps.refl _ w).drew.trans ⟨HB.out.os, HB.out.tape, HB.out.output, HB.out.size, fun k hk _ => HB.out.block k hk⟩
      exact (k1.setCell (p := ⟨p, 0, none⟩) (fun _ => .inl rfl) _).trans (HK.out.mono fun i _ h => .inl h)
    · have q4 : 0 < torn := by omega
      have q5 : ¬ (M : Int) < (n : Int) := by omega
      have K0 := Lib.hid (show w.drew.cell? ⟨p, 0, none⟩ = some (.slice a n c) from c0)
      have K1 := Lib.hid (show w.drew.heap[p]? = some (.cells #[.slice a n c, .int .i64 (last : Int), .int .i64 (most : Int)] 83 (0, 0)) from H.out.cells)
      have HT := Lib.hid (show IsL w.drew (.slice a M c) M (bs.take (M * 64)) from (H.out.row.take (by omega)).below (Below.refl _ w).drew)
      go_wp2_with (first
        | (go_at_call 58; refine (cloneL_any M (bs.take (M * 64)) _ _ (by omega) HT.out).mono ?_; rintro e w2 ⟨u, rfl, ho, hb⟩
           obtain ⟨d0, g0⟩ := cells_of_block ((hb.block p (heap_lt K1.out)).trans K1.out) 0 _ rfl
           obtain ⟨au, cu, rfl⟩ := ho.lv
           have HO := Lib.hid ho; have HB := Lib.hid hb; clear ho hb)
        | (go_at_call 57; refine (sync_any _ B p (.slice au M cu) M (bs.take (M * 64)) last most ⟨?cl, ⟨HO.out.1, ?rw⟩, H.out.base, by omega, by omega, hm⟩).mono ?_))
      case cl =>
        rw [heap_setCell_same ((HB.out.block p (heap_lt K1.out)).trans K1.out)]; rfl
      case rw =>
        refine ownsRow_of_heap (ownsRow_mono HO.out.2 (Nat.le_of_lt (Nat.lt_of_le_of_lt H.out.base (heap_lt H.out.cells)))) fun k hk => heap_setCell_ne fun e => ?_
        have hke : k = p := e
        have h1 := (HO.out.2.lt k hk).1
        have h2 := heap_lt H.out.cells
        have h3 : w.drew.heap.size = w.heap.size := rfl
        omega
      rintro e w4 ⟨rfl, hlog, hkeep⟩
      have HL := Lib.hid hlog
      have HK := Lib.hid hkeep
      clear hlog hkeep d0 g0
      go_wp2
      go_ret
      refine ⟨rfl, _, HL.out, fun k hk => (HO.out.2.lt k hk).1, ?_⟩
      have k1 : Keeps (fun i => i = p ∨ (Value.slice a n c).ownBlock = some i) w w2 := (Keeps.refl _ w).drew.trans ⟨HB.out.os, HB.out.tape, HB.out.output, HB.out.size, fun k hk _ => HB.out.block k hk⟩
      exact (k1.setCell (p := ⟨p, 0, none⟩) (fun _ => .inl rfl) _).trans (HK.out.mono fun i _ h => .inl h)
set_option maxRecDepth 100000 in
set_option maxHeartbeats 2000000 in
theorem crash_tear (w : World) (B p : Nat) (v : Value) (n : Nat) (bs : Bs) (last most : Nat) (keep torn : Int) (h : LogAt w B p v n bs last most) (h1 : 0 ≤ keep) (h2 : 0 ≤ torn) (h3 : torn ≤ 64) (h4 : keep ≤ 9223372036854775807) (ht : 0 < torn ∧ torn < 64 ∧ crashN n last keep < n) :
    Calls Try.prog 37 #[.pointer (some ⟨p, 0, none⟩), .int .i64 keep, .int .i64 torn] w (CrashPost w B p v (crashN n last keep + 1) (bs.take (crashN n last keep * 64 + torn.toNat) ++ List.replicate (64 - torn.toNat) 0) most) := by
  have H := Lib.hid h
  have hn := h.hn
  have hm := h.hm
  have hl := h.hl
  have hbl := Lib.hid h.row.1
  obtain ⟨a, c, rfl⟩ := h.lv
  have hnc := h.cap
  obtain ⟨c0, f0⟩ := cells_of_block h.cells 0 _ rfl
  obtain ⟨c1, f1⟩ := cells_of_block h.cells 1 _ rfl
  have HTT := ht
  clear ht
  have q1 : ¬ keep < 0 := by omega
  have q2 : ¬ torn < 0 := by omega
  have q3 : ¬ 64 < torn := by omega
  have hM : crashN n last keep ≤ n ∧ last ≤ crashN n last keep := by unfold crashN; omega
  obtain ⟨hM, hM2⟩ := hM
  obtain ⟨M, hMe⟩ : ∃ M, M = crashN n last keep := ⟨_, rfl⟩
  rw [← hMe]
  rw [← hMe] at hM hM2 HTT
  have HM := Lib.hid hMe
  have HTH := Lib.hid HTT
  clear HTT
  clear h hMe
  go_enter Try.func37, Try.ntmps37
  go_upto_region 5 with fail
  go_cut [7] (fun s7 wx => s7 = .int .i64 (M : Int) ∧ wx = w.drew)
  case first =>
    obtain ⟨d, hd⟩ : ∃ d : Nat, d = n - last := ⟨_, rfl⟩
    have w1 : IntKind.i64.wrap ((n : Int) - (last : Int)) = (d : Int) := (IntWalk.i64_in _ (by omega)).trans (by omega)
    have hdl : d ≤ 4096 := by omega
    by_cases hk : (d : Int) < keep
    · have w2 : IntKind.i64.wrap ((last : Int) + (d : Int)) = (M : Int) := (IntWalk.i64_in _ (by omega)).trans (by have := HM.out; unfold crashN at this; omega)
      have w3 : min keep (d : Int) = (d : Int) := by omega
      clear hd
      refine wp_region_N (fun w' => (w'.cell? ⟨p, 0, none⟩ = some (.slice a n c)) ∧ (w'.cell? ⟨p, 1, none⟩ = some (.int .i64 (last : Int))))
        [(true, 0), (true, 1), (true, 2), (true, 3), (true, 4), (true, 5), (true, 6), (true, 7), (true, 8), (true, 9), (true, 10), (true, 11), (true, 12), (true, 13), (true, 14), (true, 15), (true, 16), (true, 17)] (by kernel_rfl) (by kernel_rfl) rfl (by kernel_rfl) ?_ ?_
      · exact ⟨by go_keep, by go_keep⟩
      simp only [List.filterMap_cons, List.filterMap_nil, List.getElem?_cons_succ, List.getElem?_cons_zero, Option.map_some]
      iterate 18
       apply wpSeq_takeK _ (by first | rfl | (simp [Region.wanted, yielded]; done))
       · intro w' hS
         obtain ⟨s0, s1⟩ := hS
         skip
         go_simp
         try rfl
       intro K hK
       go_simp
       refine hK _ ?_
       clear hK K
      refine wpSeq_end ?_
      go_wp2
      go_meet
      exact ⟨rfl, rfl⟩
    · have w2 : IntKind.i64.wrap ((last : Int) + keep) = (M : Int) := (IntWalk.i64_in _ (by omega)).trans (by have := HM.out; unfold crashN at this; omega)
      have w3 : min keep (d : Int) = keep := by omega
      clear hd
      refine wp_region_N (fun w' => (w'.cell? ⟨p, 0, none⟩ = some (.slice a n c)) ∧ (w'.cell? ⟨p, 1, none⟩ = some (.int .i64 (last : Int))))
        [(true, 0), (true, 1), (true, 2), (true, 3), (true, 4), (true, 5), (true, 6), (true, 7), (true, 8), (true, 9), (true, 10), (true, 11), (true, 12), (true, 13), (true, 14), (true, 15), (true, 16), (true, 17)] (by kernel_rfl) (by kernel_rfl) rfl (by kernel_rfl) ?_ ?_
      · exact ⟨by go_keep, by go_keep⟩
      simp only [List.filterMap_cons, List.filterMap_nil, List.getElem?_cons_succ, List.getElem?_cons_zero, Option.map_some]
      iterate 18
       apply wpSeq_takeK _ (by first | rfl | (simp [Region.wanted, yielded]; done))
       · intro w' hS
         obtain ⟨s0, s1⟩ := hS
         skip
         go_simp
         try rfl
       intro K hK
       go_simp
       refine hK _ ?_
       clear hK K
      refine wpSeq_end ?_
      go_wp2
      go_meet
      exact ⟨rfl, rfl⟩
  case rest =>
    obtain ⟨rfl, rfl⟩ := hcut
    have HTT := HTH.out
    obtain ⟨ht0, ht1, ht2⟩ := HTT
    have q4 : (M : Int) < (n : Int) := by omega
    obtain ⟨g, rfl⟩ : ∃ g, a = some ⟨g, 0, none⟩ := by
      rcases H.out.val with ⟨hv, hn0⟩ | ⟨g, c', hv, _, _⟩
      · omega
      · simp only [Value.slice.injEq] at hv
        exact ⟨g, hv.1⟩
    obtain ⟨T, rfl⟩ : ∃ T : Nat, torn = (T : Int) := ⟨torn.toNat, by omega⟩
    have K0 := Lib.hid (show w.drew.cell? ⟨p, 0, none⟩ = some (.slice (some ⟨g, 0, none⟩) n c) from c0)
    have HR := Lib.hid (show OwnL w.drew B (.slice (some ⟨g, 0, none⟩) n c) n bs from H.out.row)
    have hgp : p ≠ g := fun e => H.out.ne (by rw [e]; rfl)
    go_wp2_with (refine wpList_clearL rfl _ rfl B g n c (M * 64 + T) (64 - T) (64 - T) bs rfl (by omega) HR.out (by omega) ?_)
    intro W hrow hkp
    have HRow := Lib.hid hrow
    have HKp := Lib.hid hkp
    clear hrow hkp
    have K1 := Lib.hid (show W.heap[p]? = some (.cells #[.slice (some ⟨g, 0, none⟩) n c, .int .i64 (last : Int), .int .i64 (most : Int)] 83 (0, 0)) from (HKp.out.block p (heap_lt H.out.cells) hgp).trans H.out.cells)
    have HT := Lib.hid (show IsL W (.slice (some ⟨g, 0, none⟩) (M + 1) c) (M + 1) (bs.take (M * 64 + T) ++ List.replicate (64 - T) 0) by
      have := HRow.out.take (M := M + 1) (by omega)
      simp only [← List.append_assoc] at this
      rw [List.take_left' (by have := hbl.out; simp; omega)] at this
      exact this)
    obtain ⟨k0, j0⟩ := cells_of_block K1.out 0 _ rfl
    go_wp2_with (first
      | (go_at_call 58; refine (cloneL_any (M + 1) _ _ _ (by omega) HT.out).mono ?_; rintro e w2 ⟨u, rfl, ho, hb⟩
         obtain ⟨d0, g0⟩ := cells_of_block ((hb.block p (heap_lt K1.out)).trans K1.out) 0 _ rfl
         obtain ⟨au, cu, rfl⟩ := ho.lv
         have HO := Lib.hid ho; have HB := Lib.hid hb; clear ho hb)
      | (go_at_call 57; refine (sync_any _ B p (.slice au (M + 1) cu) (M + 1) _ last most ⟨?cl, ⟨HO.out.1, ?rw⟩, H.out.base, by omega, by omega, hm⟩).mono ?_))
    case cl =>
      rw [heap_setCell_same ((HB.out.block p (heap_lt K1.out)).trans K1.out)]; rfl
    case rw =>
      refine ownsRow_of_heap (ownsRow_mono HO.out.2 (Nat.le_of_lt (Nat.lt_of_le_of_lt H.out.base (heap_lt K1.out)))) fun k hk => heap_setCell_ne fun e => ?_
      have hke : k = p := e
      have h1 := (HO.out.2.lt k hk).1
      have h2 := heap_lt K1.out
      omega
    rintro e w4 ⟨rfl, hlog, hkeep⟩
    have HL := Lib.hid hlog
    have HK := Lib.hid hkeep
    clear hlog hkeep d0 g0 k0 j0
    go_wp2
    go_ret
    refine ⟨rfl, _, HL.out, fun k hk => Nat.le_trans HKp.out.size (HO.out.2.lt k hk).1, ?_⟩
    have k1 : Keeps (fun i => i = p ∨ (Value.slice (some ⟨g, 0, none⟩) n c).ownBlock = some i) w w2 :=
      ((Keeps.refl _ w).drew.trans (HKp.out.mono fun i _ e => .inr (by rw [e]; rfl))).trans ⟨HB.out.os, HB.out.tape, HB.out.output, HB.out.size, fun k hk _ => HB.out.block k hk⟩
    exact (k1.setCell (p := ⟨p, 0, none⟩) (fun _ => .inl rfl) _).trans (HK.out.mono fun i _ h => .inl h)
set_option maxRecDepth 100000 in
set_option maxHeartbeats 2000000 in
theorem crash_tear64 (w : World) (B p : Nat) (v : Value) (n : Nat) (bs : Bs) (last most : Nat) (keep torn : Int) (h : LogAt w B p v n bs last most) (h1 : 0 ≤ keep) (h2 : 0 ≤ torn) (h3 : torn ≤ 64) (h4 : keep ≤ 9223372036854775807) (ht : 0 < torn ∧ torn = 64 ∧ crashN n last keep < n) :
    Calls Try.prog 37 #[.pointer (some ⟨p, 0, none⟩), .int .i64 keep, .int .i64 torn] w (CrashPost w B p v (crashN n last keep + 1) (bs.take (crashN n last keep * 64 + torn.toNat) ++ List.replicate (64 - torn.toNat) 0) most) := by
  have H := Lib.hid h
  have hn := h.hn
  have hm := h.hm
  have hl := h.hl
  have hbl := Lib.hid h.row.1
  obtain ⟨a, c, rfl⟩ := h.lv
  have hnc := h.cap
  obtain ⟨c0, f0⟩ := cells_of_block h.cells 0 _ rfl
  obtain ⟨c1, f1⟩ := cells_of_block h.cells 1 _ rfl
  have HTT := ht
  clear ht
  have q1 : ¬ keep < 0 := by omega
  have q2 : ¬ torn < 0 := by omega
  have q3 : ¬ 64 < torn := by omega
  have hM : crashN n last keep ≤ n ∧ last ≤ crashN n last keep := by unfold crashN; omega
  obtain ⟨hM, hM2⟩ := hM
  obtain ⟨M, hMe⟩ : ∃ M, M = crashN n last keep := ⟨_, rfl⟩
  rw [← hMe]
  rw [← hMe] at hM hM2 HTT
  have HM := Lib.hid hMe
  have HTH := Lib.hid HTT
  clear HTT
  clear h hMe
  go_enter Try.func37, Try.ntmps37
  go_upto_region 5 with fail
  go_cut [7] (fun s7 wx => s7 = .int .i64 (M : Int) ∧ wx = w.drew)
  case first =>
    obtain ⟨d, hd⟩ : ∃ d : Nat, d = n - last := ⟨_, rfl⟩
    have w1 : IntKind.i64.wrap ((n : Int) - (last : Int)) = (d : Int) := (IntWalk.i64_in _ (by omega)).trans (by omega)
    have hdl : d ≤ 4096 := by omega
    by_cases hk : (d : Int) < keep
    · have w2 : IntKind.i64.wrap ((last : Int) + (d : Int)) = (M : Int) := (IntWalk.i64_in _ (by omega)).trans (by have := HM.out; unfold crashN at this; omega)
      have w3 : min keep (d : Int) = (d : Int) := by omega
      clear hd
      refine wp_region_N (fun w' => (w'.cell? ⟨p, 0, none⟩ = some (.slice a n c)) ∧ (w'.cell? ⟨p, 1, none⟩ = some (.int .i64 (last : Int))))
        [(true, 0), (true, 1), (true, 2), (true, 3), (true, 4), (true, 5), (true, 6), (true, 7), (true, 8), (true, 9), (true, 10), (true, 11), (true, 12), (true, 13), (true, 14), (true, 15), (true, 16), (true, 17)] (by kernel_rfl) (by kernel_rfl) rfl (by kernel_rfl) ?_ ?_
      · exact ⟨by go_keep, by go_keep⟩
      simp only [List.filterMap_cons, List.filterMap_nil, List.getElem?_cons_succ, List.getElem?_cons_zero, Option.map_some]
      iterate 18
       apply wpSeq_takeK _ (by first | rfl | (simp [Region.wanted, yielded]; done))
       · intro w' hS
         obtain ⟨s0, s1⟩ := hS
         skip
         go_simp
         try rfl
       intro K hK
       go_simp
       refine hK _ ?_
       clear hK K
      refine wpSeq_end ?_
      go_wp2
      go_meet
      exact ⟨rfl, rfl⟩
    · have w2 : IntKind.i64.wrap ((last : Int) + keep) = (M : Int) := (IntWalk.i64_in _ (by omega)).trans (by have := HM.out; unfold crashN at this; omega)
      have w3 : min keep (d : Int) = keep := by omega
      clear hd
      refine wp_region_N (fun w' => (w'.cell? ⟨p, 0, none⟩ = some (.slice a n c)) ∧ (w'.cell? ⟨p, 1, none⟩ = some (.int .i64 (last : Int))))
        [(true, 0), (true, 1), (true, 2), (true, 3), (true, 4), (true, 5), (true, 6), (true, 7), (true, 8), (true, 9), (true, 10), (true, 11), (true, 12), (true, 13), (true, 14), (true, 15), (true, 16), (true, 17)] (by kernel_rfl) (by kernel_rfl) rfl (by kernel_rfl) ?_ ?_
      · exact ⟨by go_keep, by go_keep⟩
      simp only [List.filterMap_cons, List.filterMap_nil, List.getElem?_cons_succ, List.getElem?_cons_zero, Option.map_some]
      iterate 18
       apply wpSeq_takeK _ (by first | rfl | (simp [Region.wanted, yielded]; done))
       · intro w' hS
         obtain ⟨s0, s1⟩ := hS
         skip
         go_simp
         try rfl
       intro K hK
       go_simp
       refine hK _ ?_
       clear hK K
      refine wpSeq_end ?_
      go_wp2
      go_meet
      exact ⟨rfl, rfl⟩
  case rest =>
    obtain ⟨rfl, rfl⟩ := hcut
    have HTT := HTH.out
    obtain ⟨ht0, ht1, ht2⟩ := HTT
    have q4 : (M : Int) < (n : Int) := by omega
    obtain ⟨g, rfl⟩ : ∃ g, a = some ⟨g, 0, none⟩ := by
      rcases H.out.val with ⟨hv, hn0⟩ | ⟨g, c', hv, _, _⟩
      · omega
      · simp only [Value.slice.injEq] at hv
        exact ⟨g, hv.1⟩
    obtain ⟨T, rfl⟩ : ∃ T : Nat, torn = (T : Int) := ⟨torn.toNat, by omega⟩
    have K0 := Lib.hid (show w.drew.cell? ⟨p, 0, none⟩ = some (.slice (some ⟨g, 0, none⟩) n c) from c0)
    have HR := Lib.hid (show OwnL w.drew B (.slice (some ⟨g, 0, none⟩) n c) n bs from H.out.row)
    obtain rfl : T = 64 := by omega
    go_wp2_with (refine wpList_clear0 rfl _ rfl _ _ rfl ?_)
    generalize hW : w.drew = W at *
    have HKp := Lib.hid (show Keeps (fun i => i = g) w.drew W from by rw [hW]; exact Keeps.refl _ _)
    have K1 := Lib.hid (show W.heap[p]? = some (.cells #[.slice (some ⟨g, 0, none⟩) n c, .int .i64 (last : Int), .int .i64 (most : Int)] 83 (0, 0)) from by rw [← hW]; exact H.out.cells)
    have HT := Lib.hid (show IsL W (.slice (some ⟨g, 0, none⟩) (M + 1) c) (M + 1) (bs.take (M * 64 + Int.toNat ((64 : Nat) : Int)) ++ List.replicate (64 - Int.toNat ((64 : Nat) : Int)) 0) by
      have := HR.out.take (M := M + 1) (by omega)
      rw [Nat.add_mul] at this
      simpa using this)
    clear hW
    obtain ⟨k0, j0⟩ := cells_of_block K1.out 0 _ rfl
    go_wp2_with (first
      | (go_at_call 58; refine (cloneL_any (M + 1) _ _ _ (by omega) HT.out).mono ?_; rintro e w2 ⟨u, rfl, ho, hb⟩
         obtain ⟨d0, g0⟩ := cells_of_block ((hb.block p (heap_lt K1.out)).trans K1.out) 0 _ rfl
         obtain ⟨au, cu, rfl⟩ := ho.lv
         have HO := Lib.hid ho; have HB := Lib.hid hb; clear ho hb)
      | (go_at_call 57; refine (sync_any _ B p (.slice au (M + 1) cu) (M + 1) _ last most ⟨?cl, ⟨HO.out.1, ?rw⟩, H.out.base, by omega, by omega, hm⟩).mono ?_))
    case cl =>
      rw [heap_setCell_same ((HB.out.block p (heap_lt K1.out)).trans K1.out)]; rfl
    case rw =>
      refine ownsRow_of_heap (ownsRow_mono HO.out.2 (Nat.le_of_lt (Nat.lt_of_le_of_lt H.out.base (heap_lt K1.out)))) fun k hk => heap_setCell_ne fun e => ?_
      have hke : k = p := e
      have h1 := (HO.out.2.lt k hk).1
      have h2 := heap_lt K1.out
      omega
    rintro e w4 ⟨rfl, hlog, hkeep⟩
    have HL := Lib.hid hlog
    have HK := Lib.hid hkeep
    clear hlog hkeep d0 g0 k0 j0
    go_wp2
    go_ret
    refine ⟨rfl, _, HL.out, fun k hk => Nat.le_trans HKp.out.size (HO.out.2.lt k hk).1, ?_⟩
    have k1 : Keeps (fun i => i = p ∨ (Value.slice (some ⟨g, 0, none⟩) n c).ownBlock = some i) w w2 :=
      ((Keeps.refl _ w).drew.trans (HKp.out.mono fun i _ e => .inr (by rw [e]; rfl))).trans ⟨HB.out.os, HB.out.tape, HB.out.output, HB.out.size, fun k hk _ => HB.out.block k hk⟩
    exact (k1.setCell (p := ⟨p, 0, none⟩) (fun _ => .inl rfl) _).trans (HK.out.mono fun i _ h => .inl h)

end Go.Proofs.Ytobpohjhhelljaa
