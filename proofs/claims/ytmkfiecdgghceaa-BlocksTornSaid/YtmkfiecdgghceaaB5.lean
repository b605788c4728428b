/- Layer 5 (blocks): a log in memory; what only reads it, and Sync. -/
import Derived.Test.YtmkfiecdgghceaaB4
import Derived.Test.YtmkfiecdgghceaaKeeps
import Derived.IntWalk
namespace Go.Proofs.Ytmkfiecdgghceaa
open Go.RowKit
set_option linter.unusedVariables false
set_option linter.unusedSimpArgs false

/-! ### one block read and written -/
theorem run_load_blk (cs : Bs) (hl : cs.length = 64) (b o : Nat) (w : World) (h : ∀ k (hk : k < cs.length), w.cell? ⟨b, o + k, none⟩ = some (.int .u8 (cs[k].toNat : Int))) : (loadVar 64 ⟨b, o, none⟩).run Try.prog w = .ok (.agg (cellsU cs).toArray) w := by
  have := load_cells_at (P := Try.prog) (b := b) (o := o) (cs := (cellsU cs).toArray) (w := w) (fun k hk => by
    have hk' : k < cs.length := by simpa using hk
    rw [h k hk']
    simpa using (cellsU_get cs k hk').symm) 64 0 #[] (by simp [hl]) (by simp)
  have h1 : (isAgg 64).run Try.prog w = .ok true w := by kernel_rfl
  have h2 : (sizeOf 64).run Try.prog w = .ok 64 w := by kernel_rfl
  simp only [loadVar, Sem.run_bind, h1, h2, Result.andThen, loadCells, this, if_true, Sem.run_pure]
theorem run_store_blk (cs : Bs) (hl : cs.length = 64) (b : Nat) (old : Array Value) (w : World) (h : w.heap[b]? = some (.cells old 64 (0, 0))) (hs : old.size = 64) :
    (storeVar 64 ⟨b, 0, none⟩ (.agg (cellsU cs).toArray)).run Try.prog w = .ok () (Wset w b (.cells (cellsU cs).toArray 64 (0, 0))) := by
  have h2 : (sizeOf 64).run Try.prog w = .ok 64 w := by kernel_rfl
  have := store_cells (P := Try.prog) (b := b) (t := 64) (cellsU cs).toArray (by intro v hv; simp [cellsU] at hv; obtain ⟨c, _, rfl⟩ := hv; rfl) (cellsU cs) 0 old w h (by simp [hs, hl]) (by simp) (by simp)
  simp only [storeVar, Sem.run_bind, h2, Result.andThen, Value.cells, List.size_toArray, cellsU_length, hl]
  simpa using this
theorem run_sureAddr {P : Program} (b k : Nat) (w : World) : (Instr.sureAddr (.pointer (some ⟨b, k, none⟩))).run P w = .ok ⟨b, k, none⟩ w := by
  simp [Instr.sureAddr]
theorem exec_loadBlk {o : Oper} {a : Act} {w : World} {x : Operand} {b f : Nat} (cs : Bs) (hl : cs.length = 64) (hop : o.op = .load 64 x) (hx : a.eval x = .pointer (some ⟨b, f, none⟩)) (h : ∀ k (hk : k < cs.length), w.cell? ⟨b, f + k, none⟩ = some (.int .u8 (cs[k].toNat : Int))) :
    (execOp a.eval o).run Try.prog w = .ok (.value (.agg (cellsU cs).toArray)) w := by
  have := run_load_blk cs hl b f w h
  simp [execOp, hop, hx, Instr.loadAt, run_sureAddr, this, Result.andThen]
theorem wpList_loadBlk {ops : Array Oper} {Q : Exit → Act → World → Prop} {o : Oper} {rest : List Oper} {a : Act} {w : World} (hg : o.guard = none) (x : Operand) (hop : o.op = .load 64 x) (b f : Nat) (hx : a.eval x = .pointer (some ⟨b, f, none⟩))
    (cs : Bs) (hl : cs.length = 64) (h : ∀ k (hk : k < cs.length), w.cell? ⟨b, f + k, none⟩ = some (.int .u8 (cs[k].toNat : Int))) (hK : wpList Try.prog ops Q rest (a.put o.dst (.agg (cellsU cs).toArray)) w) : wpList Try.prog ops Q (o :: rest) a w :=
  wpList_plain hg fun K hK' => by
    unfold Oper.wp
    rw [exec_loadBlk cs hl hop hx h]
    exact hK' _ _ hK
theorem wpList_storeBlk {ops : Array Oper} {Q : Exit → Act → World → Prop} {o : Oper} {rest : List Oper} {a : Act} {w : World} (hg : o.guard = none) (x y : Operand) (hop : o.op = .store 64 x y) (b : Nat) (hx : a.eval x = .pointer (some ⟨b, 0, none⟩))
    (cs : Bs) (hl : cs.length = 64) (hy : a.eval y = .agg (cellsU cs).toArray) (old : Array Value) (h : w.heap[b]? = some (.cells old 64 (0, 0))) (hs : old.size = 64) (hK : wpList Try.prog ops Q rest (a.put o.dst undef) (Wset w b (.cells (cellsU cs).toArray 64 (0, 0)))) :
    wpList Try.prog ops Q (o :: rest) a w :=
  wpList_plain hg fun K hK' => by
    have := run_store_blk cs hl b old w h hs
    unfold Oper.wp
    simp [execOp, hop, hx, hy, Instr.storeAt, run_sureAddr, this, Result.andThen]
    exact hK' _ _ hK
theorem Wset_alloc {w : World} {o p : Go.Obj} : Wset (w.alloc o) w.heap.size p = w.alloc p := by
  unfold Wset World.alloc
  congr 1
  apply Array.ext_getElem?
  intro k
  by_cases hk : w.heap.size = k
  · subst hk; simp
  · rw [Array.getElem?_setIfInBounds_ne hk]
    simp [Array.getElem?_push, Ne.symm hk]
theorem isB_of_heap {w : World} {b : Nat} {t : TypeId} (cs : Bs) (h : w.heap[b]? = some (.cells (cellsU cs).toArray t (0, 0))) (hm : cs.length ≤ maxLen) : IsB w (.slice (some ⟨b, 0, none⟩) cs.length cs.length) cs :=
  .inr ⟨b, 0, _, rfl, Nat.le_refl _, hm, fun k hk => by simp only [World.cell?, h]; simpa using cellsU_get cs k hk⟩

/-! ### a log -/
structure LogAt (w : World) (B p : Nat) (v : Value) (n : Nat) (bs : Bs) (last most : Nat) : Prop where
  cells : w.heap[p]? = some (.cells #[v, .int .i64 (last : Int), .int .i64 (most : Int)] 58 (0, 0))
  row : OwnL w B v n bs
  base : B ≤ p
  hl : last ≤ n
  hn : n ≤ most
  hm : most ≤ 4096
theorem LogAt.kept {w w' : World} {B p : Nat} {v : Value} {n : Nat} {bs : Bs} {last most : Nat} (h : LogAt w B p v n bs last most) (hk : ∀ i, i = p ∨ v.ownBlock = some i → w'.heap[i]? = w.heap[i]?) : LogAt w' B p v n bs last most :=
  ⟨(hk p (.inl rfl)).trans h.cells, ⟨h.row.1, ownsRow_of_heap h.row.2 fun k hk' => hk k (.inr hk')⟩, h.base, h.hl, h.hn, h.hm⟩
theorem LogAt.lt {w : World} {B p : Nat} {v : Value} {n : Nat} {bs : Bs} {last most : Nat} (h : LogAt w B p v n bs last most) : p < w.heap.size ∧ ∀ k, v.ownBlock = some k → B ≤ k ∧ k < w.heap.size := ⟨heap_lt h.cells, h.row.2.lt⟩
theorem LogAt.below {w w' : World} {B p : Nat} {v : Value} {n : Nat} {bs : Bs} {last most : Nat} (h : LogAt w B p v n bs last most) (hb : Below w.heap.size w w') : LogAt w' B p v n bs last most :=
  h.kept fun i hi => hb.block i (by rcases hi with rfl | hi; exact h.lt.1; exact (h.lt.2 i hi).2)
theorem LogAt.ne {w : World} {B p : Nat} {v : Value} {n : Nat} {bs : Bs} {last most : Nat} (h : LogAt w B p v n bs last most) : v.ownBlock ≠ some p := by
  intro e
  obtain ⟨_, h1⟩ := h.row
  obtain ⟨_, ⟨rfl, _⟩ | ⟨g, cap, cur, rfl, _, hg, _⟩⟩ := h1
  · simp [Value.ownBlock] at e
  · simp [Value.ownBlock] at e
    subst e
    rw [h.cells] at hg
    simp at hg
/-- the row's value: nil, or at a block's head -/
theorem LogAt.val {w : World} {B p : Nat} {v : Value} {n : Nat} {bs : Bs} {last most : Nat} (h : LogAt w B p v n bs last most) : (v = .slice none 0 0 ∧ n = 0) ∨ ∃ g c, v = .slice (some ⟨g, 0, none⟩) n c ∧ n ≤ c ∧ c ≤ maxLen := by
  obtain ⟨_, ⟨rfl, hn⟩ | ⟨g, cap, cur, rfl, _, _, h1, h2, _⟩⟩ := h.row.2
  · exact .inl ⟨rfl, hn⟩
  · exact .inr ⟨g, cap, rfl, h1, h2⟩
theorem LogAt.lv {w : World} {B p : Nat} {v : Value} {n : Nat} {bs : Bs} {last most : Nat} (h : LogAt w B p v n bs last most) : ∃ a c, v = .slice a n c := by
  rcases h.val with ⟨rfl, rfl⟩ | ⟨g, c, rfl, _⟩
  · exact ⟨_, _, rfl⟩
  · exact ⟨_, _, rfl⟩

theorem LogAt.cap {w : World} {B p : Nat} {a : Option Addr} {n c : Nat} {bs : Bs} {last most : Nat} (h : LogAt w B p (.slice a n c) n bs last most) : n ≤ c := by
  rcases h.val with ⟨hv, hn⟩ | ⟨g, c', hv, h1, _⟩
  · omega
  · simp only [Value.slice.injEq, true_and] at hv
    omega

def NewPost (w : World) (n : Int) (e : Ending) (w' : World) : Prop := ∃ p, e = .returned (.pointer (some ⟨p, 0, none⟩)) ∧ LogAt w' w.heap.size p (.slice none 0 0) 0 [] 0 n.toNat ∧ Below w.heap.size w w'
set_option maxHeartbeats 1000000 in
theorem new_bad (n : Int) (w : World) (h : n < 1 ∨ 4096 < n) : Calls Try.prog 16 #[.int .i64 n] w fun e w' => e = .returned (.pointer none) ∧ w' = w := by
  by_cases h1 : n < 1
  · go_enter Try.func16, Try.ntmps16
    go_wp2
    go_ret
    exact ⟨rfl, rfl⟩
  · have h2 : 4096 < n := by omega
    go_enter Try.func16, Try.ntmps16
    go_wp2
    go_ret
    exact ⟨rfl, rfl⟩
set_option maxHeartbeats 1000000 in
theorem new_any (n : Int) (w : World) (h1 : 1 ≤ n) (h2 : n ≤ 4096) : Calls Try.prog 16 #[.int .i64 n] w (NewPost w n) := by
  have H : Hid ((n.toNat : Int) = n) := Lib.hid (by omega)
  go_enter Try.func16, Try.ntmps16
  go_wp2
  go_ret
  exact ⟨w.heap.size, rfl, ⟨by rw [H.out]; exact heap_alloc_eq, ⟨rfl, World.ownsRow_nil _ _ _ _⟩, Nat.le_refl _, Nat.le_refl _, Nat.zero_le _, by omega⟩, (Below.refl _ _).alloc (Nat.le_refl _) _⟩

def SyncPost (w : World) (B p : Nat) (v : Value) (n : Nat) (bs : Bs) (most : Nat) (e : Ending) (w' : World) : Prop := e = .returned (.int .i64 0) ∧ LogAt w' B p v n bs n most ∧ Keeps (fun i => i = p) w w'
set_option maxHeartbeats 1000000 in
theorem sync_nil (w : World) : Calls Try.prog 18 #[.pointer none] w fun e w' => e = .returned (.int .i64 1) ∧ w' = w := by
  go_enter Try.func18, Try.ntmps18
  go_wp2
  go_ret
  exact ⟨rfl, rfl⟩
set_option maxHeartbeats 1000000 in
theorem sync_core (w : World) (B p : Nat) (v : Value) (n : Nat) (bs : Bs) (last : Int) (most : Nat) (hc : w.heap[p]? = some (.cells #[v, .int .i64 last, .int .i64 (most : Int)] 58 (0, 0))) (hr : OwnL w B v n bs) (hb : B ≤ p) (hn : n ≤ most) (hm : most ≤ 4096) :
    Calls Try.prog 18 #[.pointer (some ⟨p, 0, none⟩)] w (SyncPost w B p v n bs most) := by
  have HC := Lib.hid hc
  have HR := Lib.hid hr
  obtain ⟨a, c, rfl⟩ := hr.lv
  obtain ⟨c0, f0⟩ := cells_of_block hc 0 _ rfl
  obtain ⟨c1, f1⟩ := cells_of_block hc 1 _ rfl
  have hne : (Value.slice a n c).ownBlock ≠ some p := by
    intro e
    obtain ⟨_, _, ⟨hv, _⟩ | ⟨g, cap, cur, hv, _, hg, _⟩⟩ := hr
    · rw [hv] at e; simp [Value.ownBlock] at e
    · rw [hv] at e
      simp [Value.ownBlock] at e
      subst e
      rw [hc] at hg
      simp at hg
  have HNe := Lib.hid hne
  clear hc hr hne
  go_enter Try.func18, Try.ntmps18
  go_wp2
  go_ret
  refine ⟨rfl, ⟨?_, ⟨HR.out.1, ownsRow_of_heap HR.out.2 fun k hk => heap_setCell_ne fun e => HNe.out (by rw [hk]; exact congrArg some e)⟩, hb, Nat.le_refl _, hn, hm⟩, (Keeps.refl (fun i => i = p) w).setCell (p := ⟨p, 1, none⟩) (fun _ => rfl) _⟩
  rw [heap_setCell_same HC.out]; rfl
theorem sync_any (w : World) (B p : Nat) (v : Value) (n : Nat) (bs : Bs) (last most : Nat) (h : LogAt w B p v n bs last most) : Calls Try.prog 18 #[.pointer (some ⟨p, 0, none⟩)] w (SyncPost w B p v n bs most) :=
  sync_core w B p v n bs last most h.cells h.row h.base h.hn h.hm

set_option maxHeartbeats 1000000 in
theorem free_nil (w : World) : Calls Try.prog 24 #[.pointer none] w fun e w' => e = .returned (.int .i64 0) ∧ w' = w := by
  go_enter Try.func24, Try.ntmps24
  go_wp2
  go_ret
  exact ⟨rfl, rfl⟩
set_option maxHeartbeats 1000000 in
theorem free_any (w : World) (B p : Nat) (v : Value) (n : Nat) (bs : Bs) (last most : Nat) (h : LogAt w B p v n bs last most) : Calls Try.prog 24 #[.pointer (some ⟨p, 0, none⟩)] w fun e w' => e = .returned (.int .i64 ((most : Int) - (n : Int))) ∧ Below w.heap.size w w' := by
  have hn := h.hn
  have hm := h.hm
  obtain ⟨a, c, rfl⟩ := h.lv
  obtain ⟨c0, f0⟩ := cells_of_block h.cells 0 _ rfl
  obtain ⟨c2, f2⟩ := cells_of_block h.cells 2 _ rfl
  clear h
  go_enter Try.func24, Try.ntmps24
  go_wp2
  go_still (by kernel_rfl)
  go_wp2
  go_ret
  exact ⟨ret_int (IntWalk.i64_in _ (by omega)), (Below.refl _ w).drew⟩

set_option maxHeartbeats 1000000 in
theorem bytes_nil (w : World) : Calls Try.prog 27 #[.pointer none] w (LayPost w []) := by
  go_enter Try.func27, Try.ntmps27
  go_wp2
  go_ret
  exact ⟨_, rfl, World.ownsRow_nil _ _ _ _, Below.refl _ _⟩

theorem take_blk {bs : Bs} {n : Nat} (hl : bs.length = n * 64) (k : Nat) (hk : k < n) : bs.take ((k + 1) * 64) = bs.take (k * 64) ++ (bs.drop (k * 64)).take 64 ∧ ((bs.drop (k * 64)).take 64).length = 64 := by
  constructor
  · rw [show (k + 1) * 64 = k * 64 + 64 by omega, List.take_add]
  · rw [List.length_take, List.length_drop]; omega

set_option maxRecDepth 100000 in
set_option maxHeartbeats 2000000 in
theorem bytes_any (w : World) (B p : Nat) (v : Value) (n : Nat) (bs : Bs) (last most : Nat) (h : LogAt w B p v n bs last most) : Calls Try.prog 27 #[.pointer (some ⟨p, 0, none⟩)] w (LayPost w bs) := by
  have H := Lib.hid h
  have hn := h.hn
  have hm := h.hm
  have hbl := h.row.1
  obtain ⟨a, c, rfl⟩ := h.lv
  obtain ⟨c0, f0⟩ := cells_of_block h.cells 0 _ rfl
  clear h
  go_enter Try.func27, Try.ntmps27
  go_wp2
  go_loopw [3, 13] (fun out i wr => ∃ k : Nat, k ≤ n ∧ i = .int .i64 k ∧ Hid (OwnB wr w.heap.size out (bs.take (k * 64))) ∧ Hid (Below w.heap.size w wr)) (fun _ i _ => n - (intOf i).toNat)
  case atStart => exact ⟨0, Nat.zero_le _, rfl, Lib.hid (by rw [Nat.zero_mul, List.take_zero]; exact World.ownsRow_nil _ _ _ _), Lib.hid (Below.refl _ _)⟩
  case round =>
    obtain ⟨k, hk, rfl, HO, HB⟩ := hrel
    clear c0 f0
    by_cases hlt : k < n
    · obtain ⟨hl, ⟨h1, h2⟩ | ⟨g, o, c', hv, h1, h2, hc⟩⟩ := (H.out.row.isL.below HB.out)
      · omega
      cases hv
      obtain ⟨ht, hlen⟩ := take_blk hbl k hlt
      have HT := Lib.hid ht
      have hcc : ∀ j (hj : j < ((bs.drop (k * 64)).take 64).length), wr.cell? ⟨g, o + k * 64 + j, none⟩ = some (.int .u8 (((bs.drop (k * 64)).take 64)[j].toNat : Int)) := fun j hj => by
        have := hc (k * 64 + j) (by omega)
        rw [List.getElem_take, List.getElem_drop, ← this, Nat.add_assoc]
      have HC := Lib.hid hcc
      have HLen := Lib.hid hlen
      generalize hX : (bs.drop (k * 64)).take 64 = X at *
      clear hc hcc ht hlen hX hbl hl
      go_wp2_with (first | (refine wpList_loadBlk rfl _ rfl g (o + k * 64) rfl X HLen.out HC.out ?_) | (refine wpList_storeBlk rfl _ _ rfl wr.heap.size rfl X HLen.out rfl _ heap_alloc_eq rfl ?_; rw [Wset_alloc]) | (at_builtin; refine wpList_app_bytes rfl _ _ rfl w.heap.size u3 (bs.take (k * 64)) rfl ?_ _ X rfl ?_ ?_ ?_ ?_))
      · exact HO.out.alloc _
      · have := isB_of_heap (w := wr.alloc (.cells (cellsU X).toArray 64)) (b := wr.heap.size) X heap_alloc_eq (by rw [HLen.out]; unfold maxLen; omega)
        rw [HLen.out] at this
        exact this
      · have := HLen.out; simp; omega
      · have := HB.out.size; simp; omega
      intro v' w2 hown hgr
      have HO2 := Lib.hid (show OwnB w2 w.heap.size v' (bs.take ((k + 1) * 64)) by rw [HT.out]; exact hown)
      have HB2 := Lib.hid ((HB.out.alloc HB.out.size _).grown hgr (by have := HB.out.size; simp; omega) (fun j e => (HO.out.lt j e).1))
      clear hown hgr
      go_wp2
      go_roundw
      case rel => exact ⟨k + 1, by omega, by go_num, HO2, HB2⟩
      case measure => simp [intOf]; omega
    · obtain rfl : k = n := by omega
      have hfin := HO.out
      rw [List.take_of_length_le (by omega)] at hfin
      have HF := Lib.hid hfin
      clear hfin HO
      go_wp2
      go_ret
      exact ⟨u3, rfl, HF.out, HB.out⟩

end Go.Proofs.Ytmkfiecdgghceaa
