/- Layer 5 (blocks): a log's Append. -/
import Derived.Test.YtmkfiecdgghceaaB10
import Derived.Test.YtmkfiecdgghceaaTree
import Derived.OwnWalk
namespace Go.Proofs.Ytmkfiecdgghceaa
open Go.RowKit
set_option linter.unusedVariables false
set_option linter.unusedSimpArgs false

open Go.Shelf
attribute [local go_sem] Oper.semAt_some

/-- a block's bytes, out of the beginning of others -/
def blk (R : Bs) : Bs := R.take 64 ++ List.replicate (64 - R.length) 0
theorem blk_length (R : Bs) : (blk R).length = 64 := by simp [blk]; omega

theorem wpList_copyBlk {ops : Array Oper} {rest : List Oper} {o : Oper} {a : Act} {w : World} {Q : Exit → Act → World → Prop} (hgd : o.guard = none) (d s : Operand)
    (ho : o.op = .call { callee := .builtin .copy, args := #[d, s], argTypes := #[22, 22] }) (g b f c : Nat) (R : Bs) (n q : Nat) (hn : n = R.length) (hq : q = min n 64) (hd : a.eval d = .slice (some ⟨g, 0, none⟩) 64 64) (hs : a.eval s = .slice (some ⟨b, f, none⟩) n c)
    (cur : Array Value) (hg : w.heap[g]? = some (.cells cur 64 (0, 0))) (hcur : cur.toList = cellsU (List.replicate 64 0)) (hsrc : ∀ k (hk : k < R.length), w.cell? ⟨b, f + k, none⟩ = some (.int .u8 (R[k].toNat : Int)))
    (h : ∀ W, W.heap[g]? = some (.cells (cellsU (blk R)).toArray 64 (0, 0)) → Keeps (fun i => i = g) w W → wpList Try.prog ops Q rest (a.put o.dst (.int .i64 (q : Int))) W) : wpList Try.prog ops Q (o :: rest) a w := by
  subst hn
  subst hq
  refine wpList_plain hgd fun K hK => ?_
  have hz : (Try.prog.info? 5).map (·.size) = some 1 := by
    obtain ⟨i0, hi, _, h1, _⟩ := info_parts info_b
    rw [hi]; simp [h1]
  have hr := run_copy_row (P := Try.prog) w 22 22 o.type 5 g 0 64 64 ⟨b, f, none⟩ R.length c cur 64 (cellsU (R.take 64)) und_B hz hg (by rw [cellsU_length, List.length_take]; exact Nat.min_comm _ _)
    (fun j v hj => by
      have hlt : j < (R.take 64).length := by have := (List.getElem?_eq_some_iff.1 hj).1; simpa using this
      rw [cellsU_get _ j hlt] at hj
      cases hj
      rw [List.length_take] at hlt
      rw [Addr.add_lit, List.getElem_take]
      exact hsrc j (by omega))
    (by have : cur.size = 64 := by rw [← Array.length_toList, hcur]; simp
        simp; omega) (cellsU_one _)
  have hlen : (cellsU (R.take 64)).length = min R.length 64 := by rw [cellsU_length, List.length_take]; exact Nat.min_comm _ _
  have hcells : (cur.toList.take 0 ++ cellsU (R.take 64) ++ cur.toList.drop (0 + (cellsU (R.take 64)).length)).toArray = (cellsU (blk R)).toArray := by
    rw [hcur, blk, cellsU_append, List.take_zero, List.nil_append]
    congr 2
    rw [hlen, Nat.zero_add, cellsU, ← List.map_drop, List.drop_replicate, cellsU]
    congr 2
    omega
  rw [hcells, hlen] at hr
  unfold Oper.wp
  simp only [execOp, ho]
  simp [resolve, invoke, builtin, hd, hs, hr, Result.andThen, goInt]
  have hfin := h (w.setRow g (cellsU (blk R)).toArray) (setRow_heap w g _ _ _ _ hg) ⟨rfl, rfl, rfl, by simp [World.setRow], fun k _ hk => setRow_other _ _ _ _ hk⟩
  exact hK _ _ hfin

theorem foldl_set : ∀ (xs : List Value) (k : Nat) (cs : Array Value), k + xs.length = cs.size → cs.toList.take k ++ xs = ((xs.zipIdx k).foldl (fun (cs : Array Value) (p : Value × Nat) => cs.setIfInBounds (0 + p.2) p.1) cs).toList
  | [], k, cs, h => by simp at h ⊢; rw [List.take_of_length_le (by simp; omega)]
  | x :: xs, k, cs, h => by
    have ih := foldl_set xs (k + 1) (cs.setIfInBounds (0 + k) x) (by simp at h ⊢; omega)
    simp only [List.zipIdx_cons, List.foldl_cons]
    rw [← ih]
    have hk : k < cs.toList.length := by simp at h ⊢; omega
    rw [Array.toList_setIfInBounds, Nat.zero_add, List.take_set, List.take_succ_eq_append_getElem hk, List.set_append_right _ _ (by simp; exact Nat.min_le_left _ _)]
    simp [Nat.min_eq_left (Nat.le_of_lt hk), List.length_take]
    rw [Nat.min_eq_left (by simp at h; omega)]
    simp
theorem run_buildBlk {w : World} (X : Bs) (hX : X.length = 64) : (Instr.buildSlice 56 1 #[(0, .agg (cellsU X).toArray)]).run Try.prog w = .ok (.slice (some ⟨w.heap.size, 0, none⟩) 1 1) (w.alloc (.cells (cellsU X).toArray 64)) := by
  obtain ⟨i0, z, hi, hz0, hz1, hz2, hz3⟩ := info_l
  have hf : ∀ Z : Array Value, Z.size = 64 → Instr.fill (fun i => some (i * 64, 64)) Z [(0, .agg (cellsU X).toArray)] = some (cellsU X).toArray := by
    intro Z hZ
    simp only [Instr.fill, Value.cells, List.size_toArray, cellsU_length, hX, hZ, Nat.zero_mul]
    simp only [ne_eq, not_true_eq_false, decide_false, Nat.zero_add, gt_iff_lt, Nat.lt_irrefl, Bool.or_false, Bool.false_eq_true, if_false, Option.some.injEq]
    apply Array.toList_inj.1
    have h := foldl_set (cellsU X) 0 Z (by simp [hX, hZ])
    rw [List.take_zero, List.nil_append] at h
    rw [← Array.foldl_toList, Array.toList_zipIdx]
    simpa using h.symm
  have hs : (sizeOf 64).run Try.prog w = .ok 64 w := by simp [sizeOf, typeInfo, hi, hz1]
  have hz : (zeroValue 64).run Try.prog w = .ok z w := by simp [zeroValue, typeInfo, hi, hz0]
  have hf2 := hf ((Array.range (1 * 64)).map (z.cells[· % z.cells.size]!)) (by simp)
  simp only [Nat.one_mul] at hf2
  simp [Instr.buildSlice, run_underlying und_L, hs, hz, Result.andThen, hf2, newRow]

def AppendPost (w : World) (B p : Nat) (v : Value) (n' : Nat) (bs' : Bs) (last most : Nat) (e : Ending) (w' : World) : Prop :=
  e = .returned (.int .i64 0) ∧ ∃ u, LogAt w' B p u n' bs' last most ∧ (∀ k, u.ownBlock = some k → v.ownBlock = some k ∨ w.heap.size ≤ k) ∧ Keeps (fun i => i = p ∨ v.ownBlock = some i) w w'

set_option maxHeartbeats 1000000 in
theorem append_nil (w : World) (a : Option Addr) (n c : Nat) (hn : n ≤ maxLen) : Calls Try.prog 17 #[.pointer none, .slice a n c] w fun e w' => e = .returned (.int .i64 1) ∧ w' = w := by
  unfold maxLen at hn
  refine calls_of_wp_marks Try.func17 rfl ?_
  simp only [Try.ntmps17, List.size_toArray, List.length_cons, List.length_nil, Nat.reduceAdd, Nat.reduceSub, Array.replicate_succ, Array.replicate_zero, List.push_toArray, List.append_toArray, List.nil_append, List.cons_append]
  go_wp2_with (go_at_call 14; refine (need_any _ _).mono ?_; rintro e w' ⟨rfl, rfl⟩)
  exact marks_none rfl (fun w => results_tmp rfl _ _ _) ⟨rfl, rfl⟩
set_option maxHeartbeats 1000000 in
theorem append_bad (w : World) (p : Nat) (a : Option Addr) (n c : Nat) (hn : n ≤ maxLen) (hb : n < 1 ∨ 1024 < n) : Calls Try.prog 17 #[.pointer (some ⟨p, 0, none⟩), .slice a n c] w fun e w' => e = .returned (.int .i64 3) ∧ w' = w := by
  unfold maxLen at hn
  have hz : need (n : Int) = 0 := by rw [need_nat, needN_bad hb]; rfl
  have HZ := Lib.hid hz
  refine calls_of_wp_marks Try.func17 rfl ?_
  simp only [Try.ntmps17, List.size_toArray, List.length_cons, List.length_nil, Nat.reduceAdd, Nat.reduceSub, Array.replicate_succ, Array.replicate_zero, List.push_toArray, List.append_toArray, List.nil_append, List.cons_append]
  clear hz hb
  go_wp2_with (go_at_call 14; refine (need_any _ _).mono ?_; rintro e w' ⟨rfl, hw⟩; obtain rfl := hw.symm; rw [HZ.out])
  exact marks_none rfl (fun w => results_tmp rfl _ _ _) ⟨rfl, rfl⟩
set_option maxHeartbeats 1000000 in
theorem append_full (w : World) (B p : Nat) (v : Value) (m : Nat) (bs : Bs) (last most : Nat) (h : LogAt w B p v m bs last most) (a : Option Addr) (n c : Nat) (h1 : 1 ≤ n) (h2 : n ≤ 1024) (hb : most - m < needN n) :
    Calls Try.prog 17 #[.pointer (some ⟨p, 0, none⟩), .slice a n c] w fun e w' => e = .returned (.int .i64 7) ∧ Below w.heap.size w w' := by
  have HZ := Lib.hid (need_nat n)
  have H := Lib.hid h
  have hm := h.hm
  have hn := h.hn
  obtain ⟨N, hN⟩ : ∃ N, N = needN n := ⟨_, rfl⟩
  have hN1 := needN_of h1 h2
  rw [← hN] at hb hN1
  have e0 : ((N : Int) == 0) = false := by simp; omega
  have HN := Lib.hid hN
  clear h hN
  refine calls_of_wp_marks Try.func17 rfl ?_
  simp only [Try.ntmps17, List.size_toArray, List.length_cons, List.length_nil, Nat.reduceAdd, Nat.reduceSub, Array.replicate_succ, Array.replicate_zero, List.push_toArray, List.append_toArray, List.nil_append, List.cons_append]
  go_wp2_with (first | (go_at_call 14; refine (need_any _ _).mono ?_; rintro e w' ⟨rfl, hw⟩; obtain rfl := hw.symm; rw [HZ.out, ← HN.out]) | (go_at_call 24; refine (free_any _ _ _ _ _ _ _ _ H.out).mono ?_; rintro e w' ⟨rfl, hbl⟩; have HB := Lib.hid hbl; clear hbl))
  exact marks_none rfl (fun w => results_tmp rfl _ _ _) ⟨rfl, HB.out⟩

end Go.Proofs.Ytmkfiecdgghceaa
