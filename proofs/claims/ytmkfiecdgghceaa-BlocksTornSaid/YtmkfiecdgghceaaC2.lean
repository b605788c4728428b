/- Layer 5 (blocks): the document's log in memory; what only reads it, and Sync. -/
import Derived.Test.YtmkfiecdgghceaaC1
import Derived.Test.YtmkfiecdgghceaaReg
import Derived.IntWalk
namespace Go.Proofs.Ytmkfiecdgghceaa
open Go.RowKit
set_option linter.unusedVariables false
set_option linter.unusedSimpArgs false

structure RefAt (w : World) (B q : Nat) (v : Value) (bs : Bs) (last most : Nat) : Prop where
  cells : w.heap[q]? = some (.cells #[v, .int .i64 (last : Int), .int .i64 (most : Int)] 69 (0, 0))
  row : OwnB w B v bs
  base : B ≤ q
  hl : last ≤ bs.length
  hn : bs.length ≤ most * 64
  hm : most ≤ 4096
theorem RefAt.kept {w w' : World} {B q : Nat} {v : Value} {bs : Bs} {last most : Nat} (h : RefAt w B q v bs last most) (hk : ∀ i, i = q ∨ v.ownBlock = some i → w'.heap[i]? = w.heap[i]?) : RefAt w' B q v bs last most :=
  ⟨(hk q (.inl rfl)).trans h.cells, ownsRow_of_heap h.row fun k hk' => hk k (.inr hk'), h.base, h.hl, h.hn, h.hm⟩
theorem RefAt.lt {w : World} {B q : Nat} {v : Value} {bs : Bs} {last most : Nat} (h : RefAt w B q v bs last most) : q < w.heap.size ∧ ∀ k, v.ownBlock = some k → B ≤ k ∧ k < w.heap.size := ⟨heap_lt h.cells, h.row.lt⟩
theorem RefAt.below {w w' : World} {B q : Nat} {v : Value} {bs : Bs} {last most : Nat} (h : RefAt w B q v bs last most) (hb : Below w.heap.size w w') : RefAt w' B q v bs last most :=
  h.kept fun i hi => hb.block i (by rcases hi with rfl | hi; exact h.lt.1; exact (h.lt.2 i hi).2)
theorem ownB_ne {w : World} {B q : Nat} {v x y z : Value} {bs : Bs} (h : OwnB w B v bs) (hc : w.heap[q]? = some (.cells #[x, y, z] 69 (0, 0))) : v.ownBlock ≠ some q := by
  intro e
  obtain ⟨_, ⟨rfl, _⟩ | ⟨g, cap, cur, rfl, _, hg, _⟩⟩ := h
  · simp [Value.ownBlock] at e
  · simp [Value.ownBlock] at e
    subst e
    rw [hc] at hg
    simp at hg
theorem RefAt.ne {w : World} {B q : Nat} {v : Value} {bs : Bs} {last most : Nat} (h : RefAt w B q v bs last most) : v.ownBlock ≠ some q := ownB_ne h.row h.cells
theorem RefAt.lv {w : World} {B q : Nat} {v : Value} {bs : Bs} {last most : Nat} (h : RefAt w B q v bs last most) : ∃ a c, v = .slice a bs.length c := h.row.lv

def NewRPost (w : World) (n : Int) (e : Ending) (w' : World) : Prop := ∃ q, e = .returned (.pointer (some ⟨q, 0, none⟩)) ∧ RefAt w' w.heap.size q (.slice none 0 0) [] 0 n.toNat ∧ Below w.heap.size w w'
set_option maxHeartbeats 1000000 in
theorem newR_any (n : Int) (w : World) (h1 : 1 ≤ n) (h2 : n ≤ 4096) : Calls Try.prog 35 #[.int .i64 n] w (NewRPost w n) := by
  have H : Hid ((n.toNat : Int) = n) := Lib.hid (by omega)
  go_enter Try.func35, Try.ntmps35
  go_wp2
  go_ret
  exact ⟨w.heap.size, rfl, ⟨by rw [H.out]; exact heap_alloc_eq, World.ownsRow_nil _ _ _ _, Nat.le_refl _, Nat.le_refl _, Nat.zero_le _, by omega⟩, (Below.refl _ _).alloc (Nat.le_refl _) _⟩

def SyncRPost (w : World) (B q : Nat) (v : Value) (bs : Bs) (last most : Nat) (e : Ending) (w' : World) : Prop := e = .returned (.int .i64 0) ∧ RefAt w' B q v bs last most ∧ Keeps (fun i => i = q) w w'
set_option maxHeartbeats 1000000 in
theorem syncR_any (w : World) (B q : Nat) (v : Value) (bs : Bs) (last most : Nat) (h : RefAt w B q v bs last most) : Calls Try.prog 40 #[.pointer (some ⟨q, 0, none⟩)] w (SyncRPost w B q v bs bs.length most) := by
  have H := Lib.hid h
  have hn := h.hn
  have hm := h.hm
  obtain ⟨a, c, rfl⟩ := h.lv
  obtain ⟨c0, f0⟩ := cells_of_block h.cells 0 _ rfl
  obtain ⟨c1, f1⟩ := cells_of_block h.cells 1 _ rfl
  clear h
  go_enter Try.func40, Try.ntmps40
  go_wp2
  go_ret
  refine ⟨rfl, ⟨?_, ownsRow_of_heap H.out.row fun k hk => heap_setCell_ne fun e => H.out.ne (by rw [hk]; exact congrArg some e), H.out.base, Nat.le_refl _, H.out.hn, H.out.hm⟩, (Keeps.refl (fun i => i = q) w).setCell (p := ⟨q, 1, none⟩) (fun _ => rfl) _⟩
  rw [heap_setCell_same H.out.cells]; rfl

set_option maxHeartbeats 1000000 in
theorem freeR_any (w : World) (B q : Nat) (v : Value) (n : Nat) (bs : Bs) (last most : Nat) (h : RefAt w B q v bs last most) (hn : bs.length = n * 64) : Calls Try.prog 37 #[.pointer (some ⟨q, 0, none⟩)] w fun e w' => e = .returned (.int .i64 ((most : Int) - (n : Int))) ∧ Below w.heap.size w w' := by
  have hn' := h.hn
  have hm := h.hm
  obtain ⟨a, c, rfl⟩ := h.lv
  obtain ⟨c0, f0⟩ := cells_of_block h.cells 0 _ rfl
  obtain ⟨c2, f2⟩ := cells_of_block h.cells 2 _ rfl
  have hd : (bs.length : Int).tdiv 64 = (n : Int) := by rw [Int.tdiv_eq_ediv_of_nonneg (by omega)]; omega
  have hw : IntKind.i64.wrap ((most : Int) - (n : Int)) = (most : Int) - (n : Int) := IntWalk.i64_in _ (by omega)
  have hw2 : IntKind.i64.wrap (n : Int) = (n : Int) := IntWalk.i64_in _ (by omega)
  clear h hn
  go_enter Try.func37, Try.ntmps37
  go_wp2
  go_still (by kernel_rfl)
  go_wp2
  go_ret
  exact ⟨rfl, (Below.refl _ w).drew⟩

set_option maxHeartbeats 1000000 in
theorem bytesR_any (w : World) (B q : Nat) (v : Value) (bs : Bs) (last most : Nat) (h : RefAt w B q v bs last most) : Calls Try.prog 36 #[.pointer (some ⟨q, 0, none⟩)] w (LayPost w bs) := by
  have H := Lib.hid h
  have hn := h.hn
  have hm := h.hm
  obtain ⟨a, c, rfl⟩ := h.lv
  obtain ⟨c0, f0⟩ := cells_of_block h.cells 0 (.slice a bs.length c) rfl
  have c0a : ∀ o, (w.alloc o).cell? ⟨q, 0, none⟩ = some (.slice a bs.length c) := fun o => (Below.cell ((Below.refl w.heap.size w).alloc (Nat.le_refl _) o) (heap_lt H.out.cells)).trans c0
  clear h
  go_enter Try.func36, Try.ntmps36
  go_wp2_with (at_builtin; refine wpList_app_bytes rfl _ _ rfl w.heap.size _ [] rfl (World.ownsRow_made w _ 0 (Nat.le_refl _) (by unfold maxLen; omega) rfl) _ bs rfl (H.out.row.isB.below ((Below.refl w.heap.size w).alloc (Nat.le_refl _) _)) (by simp; omega) (by simp) ?_)
  intro v' w2 hown hgr
  have HO := Lib.hid (show OwnB w2 w.heap.size v' bs from hown)
  have HB := Lib.hid (((Below.refl w.heap.size w).alloc (Nat.le_refl _) (.cells #[] 5)).grown hgr (by simp) (fun k e => by simp [Value.ownBlock] at e; omega))
  clear hown hgr
  go_wp2
  go_ret
  exact ⟨v', rfl, HO.out, HB.out⟩

end Go.Proofs.Ytmkfiecdgghceaa
