/- Layer 5 (blocks): the records of a nil log. -/
import Derived.Test.YtmkfiecdgghceaaC11
import Derived.Test.YtmkfiecdgghceaaB10
namespace Go.Proofs.Ytmkfiecdgghceaa
open Go.RowKit
set_option linter.unusedVariables false
set_option linter.unusedSimpArgs false

open Go.Shelf
attribute [local go_sem] Oper.semAt_some

theorem rec1_nil (bx : Nat) (l : Nat) (W : World) (hbx : W.heap[bx]? = some (.cells #[.pointer none] 31 (0, 0))) (J : List Rc → World → Prop) (h0 : J [] W) :
    CallsIn Fence.wide 2 Try.prog 43 (#[.func (.yield l) #[] #[]] ++ #[.pointer (some ⟨bx, 0, none⟩)]) W fun e W' => (∃ v, e = .returned v) ∧ ∃ xs : List Rc, xs = [] ∧ J xs W' := by
  have HBX := Lib.hid hbx
  have hc0 := (cells_of_block hbx 0 _ rfl).1
  clear hbx
  refine callsIn_wide.2 ?_
  go_enter Try.func43, Try.ntmps43
  go_wp2
  exact bodyPost_ret (results_none rfl _ _ _) rfl ⟨⟨_, rfl⟩, [], rfl, h0⟩

set_option maxRecDepth 100000 in
set_option maxHeartbeats 4000000 in
theorem records_nil (w : World) :
    Calls Try.prog 19 #[.pointer none] w fun e w' => ∃ u, e = .returned u ∧ OwnRows w' w.heap.size u [] ∧ Below w.heap.size w w' := by
  refine calls_of_wp_marks Try.func19 rfl ?_
  simp only [Try.ntmps19, List.size_toArray, List.length_cons, List.length_nil, Nat.reduceAdd, Nat.reduceSub, Array.replicate_succ, Array.replicate_zero, List.push_toArray, List.append_toArray, List.nil_append, List.cons_append]
  go_wp2_with (go_at_call 31; refine (records_any _ _ ⟨_, rfl⟩).mono ?_; rintro e w' ⟨rfl, rfl⟩)
  refine wp_range_all (gf := 43) (lb := #[.pointer (some ⟨w.heap.size + 1, 0, none⟩)]) rfl (enters_of Try.func43 (by kernel_rfl) rfl) 5000 encR (fun _ => rfl) (fun _ _ => False) (fun xs => xs = []) (Keeps (fun i => ¬ (i < w.heap.size ∨ i = w.heap.size + 1)))
    (fun x W l o o' h hl ho => h) (fun h k => h.trans k) (fun W l o o' hl h ho => ⟨rfl, rfl, rfl, by simp, fun k hk hf => World.putObj_heap_other (by simp at hl; have := Classical.not_not.1 hf; omega)⟩)
    (fun pre W => (∃ ov, W.heap[w.heap.size]? = some (.cells #[ov] 28 (0, 0)) ∧ OwnRows W (w.heap.size + 2) ov (ds pre)) ∧ Below w.heap.size w W)
    (fun pre W W' hI hb => ⟨hI.1.imp fun ov h => ⟨(hb.block _ (heap_lt h.1)).trans h.1, h.2.same (CellsSame.of_below hb)⟩, hI.2.trans (hb.mono hI.2.size)⟩)
    (fun pre W l o o' hl hI h ho => ⟨hI.1.imp fun ov h1 => ⟨(World.putObj_heap_other (by simp at hl; omega)).trans h1.1, h1.2.same (CellsSame.putObj h ho)⟩, below_putObj hI.2 (by simp at hl; omega)⟩)
    ⟨⟨_, (heap_alloc_lt (by simp)).trans heap_alloc_eq, OwnRows.nil _ _⟩, ((Below.refl _ w).alloc (Nat.le_refl _) _).alloc (by simp) _⟩ ?seq ?a1 ?assign ?body ?done
  case assign =>
    intro l x W K hK
    dsimp only [encR]
    gi_wp2
    exact hK
  case seq =>
    intro l J W hW hWs hJ hY h0
    exact rec1_nil (w.heap.size + 1) l W ((hW.block _ (by simp)).trans (by have := heap_alloc_eq (w := w.alloc (.cells #[.slice none 0 0] 28)) (o := .cells #[.pointer none] 31); simpa using this)) J h0
  case body =>
    rintro l pre x W hWs _ hat hN
    exact hat.elim
  case done =>
    rintro D xs W hD hP ⟨⟨ov, hc, ho⟩, hb⟩ hK
    have hds : ds xs = [] := by rw [hP]; rfl
    obtain ⟨c0, f0⟩ := cells_of_block hc 0 ov rfl
    rw [hds] at ho
    obtain ⟨oa, oc, rfl⟩ := ho.lv
    have HO := Lib.hid ho
    have HB := Lib.hid hb
    have HK := Lib.hid hK
    have HD := Lib.hid hD
    clear ho hb hK hD hds hP hc
    go_wp2
    have hD2 : w.heap.size + 2 ≤ D := by have := HD.out; simpa using this
    refine marks_ret rfl HK.out (fun w => results_tmp rfl _ _ _) ⟨_, rfl, ?_, below_putObj HB.out (by omega)⟩
    have h1 := HO.out.same (CellsSame.putObj (o' := .deferred none) HK.out rfl)
    obtain ⟨vs, e1, e2, e3⟩ := h1
    exact ⟨vs, e1, ownsRow_mono e2 (by omega), fun i a b => ownsRow_mono (e3 i a b) (by omega)⟩

end Go.Proofs.Ytmkfiecdgghceaa
