/- Layer 7 (watch): what a nil cache answers; New, Version; what must be whatever is asked. -/
import Derived.Test.YtpclhiookajiiaaT1
import Derived.Test.YtpclhiookajiiaaRA
import Derived.RangeFuncNested
import Derived.RangeFuncBound
import Derived.RangeFuncCalls
import Derived.RangeFuncLeaves
import Derived.RangeFuncFrom
import Derived.Shelf.Abstract
import Derived.OwnWalkIn
import Derived.TacticsInMore
import Derived.LoopNIn
import Derived.LoopIn
namespace Go.Proofs.Ytpclhiookajiiaa
open Go.RowKit
set_option linter.unusedVariables false
set_option linter.unusedSimpArgs false

open Go.Shelf
attribute [local go_sem] Oper.semAt_some

theorem ctake_nil (w : World) (a : Option Addr) (n c : Nat) : Calls Try.prog 21 #[.pointer none, .slice a n c] w fun e w' => e = .returned (.tuple #[.slice none 0 0, .int .i64 1]) ∧ w' = w := by
  go_enter Try.func21, Try.ntmps21
  go_wp2
  go_ret2
  exact ⟨rfl, rfl⟩
theorem creset_nil (w : World) (a : Option Addr) (n c : Nat) (v : Int) : Calls Try.prog 24 #[.pointer none, .slice a n c, .int .u64 v] w fun e w' => e = .returned (.tuple #[.slice none 0 0, .int .i64 1]) ∧ w' = w := by
  go_enter Try.func24, Try.ntmps24
  go_wp2
  go_ret2
  exact ⟨rfl, rfl⟩
theorem cversion_nil (w : World) : Calls Try.prog 23 #[.pointer none] w fun e w' => e = .returned (.int .u64 0) ∧ w' = w := by
  go_enter Try.func23, Try.ntmps23
  go_wp2
  go_ret
  exact ⟨rfl, rfl⟩
theorem cversion_any (p m : Nat) (ms : List (GKey × Obj)) (ver : Int) (w : World) (h : CAt w p m ms ver) : Calls Try.prog 23 #[.pointer (some ⟨p, 0, none⟩)] w fun e w' => e = .returned (.int .u64 ver) ∧ w' = w := by
  obtain ⟨c1, f1⟩ := cells_of_block h.hd 1 (.int .u64 ver) rfl
  clear h
  go_enter Try.func23, Try.ntmps23
  go_wp2
  go_ret
  exact ⟨rfl, rfl⟩
theorem cfork_nil (w : World) : Calls Try.prog 30 #[.pointer none] w fun e w' => e = .returned (.pointer none) ∧ w' = w := by
  go_enter Try.func30, Try.ntmps30
  go_wp2
  go_ret
  exact ⟨rfl, rfl⟩
theorem csorted_nil (w : World) : Calls Try.prog 49 #[.pointer none] w fun e w' => e = .returned (.func (.func 77) #[] #[.pointer (some ⟨w.heap.size, 0, none⟩)]) ∧ w' = w.alloc (.cells #[.pointer none] 52) := by
  go_enter Try.func49, Try.ntmps49
  go_wp2
  go_ret
  exact ⟨rfl, rfl⟩
theorem cnew_any (w : World) : Calls Try.prog 16 #[] w fun e w' => ∃ p m, e = .returned (.pointer (some ⟨p, 0, none⟩)) ∧ CAt w' p m [] 0 ∧ Below w.heap.size w w' ∧ w.heap.size ≤ p ∧ w.heap.size ≤ m := by
  have hmm := @run_makeMap Try.prog
  go_enter Try.func16, Try.ntmps16
  go_wp2
  go_ret
  refine ⟨w.heap.size + 1, w.heap.size, by simp, ⟨?_, #[], 0, ?_, MapRep.nil _⟩, ((Below.refl _ _).alloc (Nat.le_refl _) _).alloc (by simp) _, by omega, Nat.le_refl _⟩
  · have := World.alloc_heap_new (w.alloc (.map #[] 0)) (.cells #[.map (some w.heap.size), .int .u64 0] 97)
    rwa [World.size_alloc] at this
  · exact (Below.heap_alloc _ _ _ (by simp)).trans (World.alloc_heap_new w _)

set_option maxRecDepth 100000 in
set_option maxHeartbeats 2000000 in
theorem cget_nil (w : World) (k n : Value) : Calls Try.prog 29 #[.pointer none, .agg #[k, n]] w fun e w' => e = .returned (.tuple #[.agg (cellsO objZ), .bool false]) ∧ Below w.heap.size w w' := by
  have hZ := objZ_cells
  simp only [noText] at hZ
  have HZ := Lib.hid hZ
  clear hZ
  have hq : ((w.alloc (.cells #[k, n] 45)).alloc (.cells (cellsO objZ) 31)).heap[w.heap.size + 1]? = some (.cells (cellsO objZ) 31 (0, 0)) := by
    have := World.alloc_heap_new (w.alloc (.cells #[k, n] 45)) (.cells (cellsO objZ) 31)
    rwa [World.size_alloc] at this
  conv at hq => lhs; rw [HZ.out]
  have HQ := Lib.hid hq
  clear hq
  go_enter Try.func29, Try.ntmps29
  go_wp2_with (first
    | refine wpList_storeObj rfl _ _ rfl _ rfl objZ rfl _ HQ.out rfl ?_
    | fail)
  refine bodyPost_ret (results_os objZ rfl rfl rfl (cells_all (Wset_same (heap_lt HQ.out)))) rfl ⟨rfl, belowWs (((Below.refl _ _).alloc (Nat.le_refl _) _).alloc (by simp) _) (Nat.le_succ _)⟩

set_option maxRecDepth 100000 in
set_option maxHeartbeats 2000000 in
theorem csorted1_nil (n₀ : Nat) (B : Nat) (w0 : World) (hB : w0.heap[B]? = some (.cells #[.pointer none] 52 (0, 0))) (hn : n₀ ≤ w0.heap.size) : SeqStopsK Fence.wide 2 Try.prog 77 #[.pointer (some ⟨B, 0, none⟩)] (fun x : Empty => x.elim) (Below n₀) (fun xs => xs = []) (fun _ => False) 0 w0 := by
  intro l J Jx W hW hJ hJx hY h0
  have hBW : W.heap[B]? = some (.cells #[.pointer none] 52 (0, 0)) := (hW.block B (heap_lt hB)).trans hB
  obtain ⟨c0, _⟩ := cells_of_block hBW 0 _ rfl
  refine callsIn_of_wp Try.func77 rfl trivial ?_ rfl
  simp only [Try.ntmps77, List.size_toArray, List.length_cons, List.length_nil, Nat.reduceAdd, Nat.reduceSub, Array.replicate_succ, Array.replicate_zero, List.push_toArray, List.append_toArray, List.nil_append, List.cons_append]
  gi_wp2
  exact bodyPost_ret (results_none rfl _ _ _) rfl ⟨⟨_, rfl⟩, h0⟩

set_option maxRecDepth 100000 in
set_option maxHeartbeats 2000000 in
theorem call_nil (w : World) : Calls Try.prog 28 #[.pointer none] w fun e W' => e = .returned (.slice none 0 0) ∧ Below w.heap.size w W' := by
  refine (callsIn_wide (n := 3)).1 ?_
  refine callsIn_of_wp_marks Try.func28 rfl trivial ?_ rfl
  simp only [Try.ntmps28, List.size_toArray, List.length_cons, List.length_nil, Nat.reduceAdd, Nat.reduceSub, Array.replicate_succ, Array.replicate_zero, List.push_toArray, List.append_toArray, List.nil_append, List.cons_append]
  gi_wp2_with (refine ⟨trivial, ?_⟩; gi_at_call 49; refine ((callsIn_wide (n := 2)).2 (csorted_nil _)).mono ?_; rintro e w' ⟨rfl, rfl⟩)
  have hc0 : (w.alloc (.cells #[.slice none 0 0] 49)).heap[w.heap.size]? = some (.cells #[.slice none 0 0] 49 (0, 0)) := World.alloc_heap_new w _
  have hc1 : ((w.alloc (.cells #[.slice none 0 0] 49)).alloc (.cells #[.pointer none] 52)).heap[w.heap.size + 1]? = some (.cells #[.pointer none] 52 (0, 0)) := by
    have := World.alloc_heap_new (w.alloc (.cells #[.slice none 0 0] 49)) (.cells #[.pointer none] 52)
    rwa [World.size_alloc] at this
  have hc2 : ((w.alloc (.cells #[.slice none 0 0] 49)).alloc (.cells #[.pointer none] 52)).heap[w.heap.size]? = some (.cells #[.slice none 0 0] 49 (0, 0)) := (Below.heap_alloc _ _ _ (by simp)).trans hc0
  have hB0 : Below w.heap.size w ((w.alloc (.cells #[.slice none 0 0] 49)).alloc (.cells #[.pointer none] 52)) := ((Below.refl _ w).alloc (Nat.le_refl _) _).alloc (by simp) _
  refine wpIn_rangeFunc_ownF rfl (by omega) (gf := 77) (lb := #[.pointer (some ⟨w.heap.size + 1, 0, none⟩)]) rfl trivial (enters_of Try.func77 (by kernel_rfl) rfl)
    (csorted1_nil w.heap.size (w.heap.size + 1) _ hc1 (by simp; omega)) belowK_t (belowK_b (by simp; omega)) (Below.refl _ _) (fun x => x.elim)
    (fun _ W => W.cell? ⟨w.heap.size, 0, none⟩ = some (.slice none 0 0) ∧ Below w.heap.size w W)
    (fun _ _ _ => False)
    (OwnFrom.and (Own.from (fun s A B row hs hg hr => cell_kept hs hg hr) _) (ownFrom_below (Nat.le_refl _) (by simp; omega)))
    (fun _ _ _ _ _ hs _ _ => hs)
    ⟨(cells_of_block hc2 0 _ rfl).1, hB0⟩ (fun x => x.elim) ?assign ?body ?done ?stop
  case assign => exact fun _ x => x.elim
  case body => exact fun _ _ x => x.elim
  case done =>
    rintro D ys W hD rfl ⟨hc, hB⟩ hK
    gi_wp2
    refine ⟨by simp, .inl ⟨_, _, rfl, run_takeDeferred hK, ?_⟩⟩
    exact ⟨_, results_tmp rfl _ _ _, rfl, hB.trans (belowK_b (w := w) (Nat.le_refl _) W D _ _ (by simp at hD; omega) hK rfl rfl)⟩
  case stop =>
    rintro D c pre W _ _ h _
    exact h.elim

/-! ### what must be whatever is asked -/
def liveP : Ev := ⟨1, false, { objZ with kind := 6, name := ⟨#[112]⟩ }⟩
def liveQ : Ev := ⟨3, false, objZ⟩
theorem liveP_cells : cellsEv liveP = #[.int .u64 1, .bool false, .int .u8 6, .string ⟨#[112]⟩, .int .u64 0, .int .u64 0, .bool false, .bool false, .string ⟨#[]⟩, .int .i64 0, .int .i64 0, .int .u8 0, .bool false, .bool false, .string ⟨#[]⟩, .string ⟨#[]⟩, .string ⟨#[]⟩, .string ⟨#[]⟩, .string ⟨#[]⟩, .int .u8 0, .int .u64 0, .int .u64 0] := by simp [cellsEv, cellsO, liveP, objZ, noText]
theorem liveQ_cells : cellsEv liveQ = #[.int .u64 3, .bool false, .int .u8 0, .string ⟨#[]⟩, .int .u64 0, .int .u64 0, .bool false, .bool false, .string ⟨#[]⟩, .int .i64 0, .int .i64 0, .int .u8 0, .bool false, .bool false, .string ⟨#[]⟩, .string ⟨#[]⟩, .string ⟨#[]⟩, .string ⟨#[]⟩, .string ⟨#[]⟩, .int .u8 0, .int .u64 0, .int .u64 0] := by simp [cellsEv, cellsO, liveQ, objZ, noText]
theorem evs_one {w : World} {b : Nat} {e : Ev} (h : w.heap[b]? = some (.cells (cellsEv e) 69 (0, 0))) : EvsAt w (some ⟨b, 0, none⟩) [e] := by
  refine .inr ⟨b, 0, rfl, fun i x hi k hk => ?_⟩
  have hi0 : i = 0 := by
    have := (List.getElem?_eq_some_iff.1 hi).1
    simpa using this
  subst hi0
  simp at hi
  subst hi
  simp only [Nat.zero_mul, Nat.zero_add, Nat.add_zero]
  exact cells_all h k

set_option maxRecDepth 100000 in
set_option maxHeartbeats 4000000 in
theorem clive_any (w : World) : Calls Try.prog 26 #[] w fun e w' => e = .returned (.bool true) ∧ Below w.heap.size w w' := by
  have HC1 := Lib.hid liveP_cells
  have HC2 := Lib.hid liveQ_cells
  go_enter Try.func26, Try.ntmps26
  go_wp2_with fail
  refine (cnew_any w).mono ?_
  rintro e w1 ⟨p, m, rfl, hc, hb, hp, hm⟩
  have HC := Lib.hid hc
  have HB := Lib.hid hb
  clear hc hb
  go_wp2_with fail
  rw [← HC1.out]
  have hb2 : Below w1.heap.size w1 (w1.alloc (.cells (cellsEv liveP) 69)) := (Below.refl _ _).alloc (Nat.le_refl _) _
  have hpl := heap_lt HC.out.hd
  have hml : m < w1.heap.size := by obtain ⟨_, _, h3, _⟩ := HC.out.mp; exact heap_lt h3
  refine (take_any p m [] 0 [liveP] (some ⟨w1.heap.size, 0, none⟩) 1 _ (HC.out.below hb2) (evs_one heap_alloc_eq) (by simp) (by omega) (fun x e => by simp at e; subst e; simp only; omega)).mono ?_
  rintro e w2 hT
  unfold TakePost at hT
  rw [show follows 0 [liveP] = true by decide] at hT
  obtain ⟨kv, rfl, hok, hc, hk⟩ := hT
  have hok' : OwnK w2 (w1.alloc (.cells (cellsEv liveP) 69)).heap.size kv [⟨6, ⟨#[112]⟩⟩] := hok
  obtain ⟨g, cap, hkv, hcap⟩ : ∃ g cap, kv = .slice (some ⟨g, 0, none⟩) 1 cap ∧ cap ≤ maxLen := by
    obtain ⟨_, ⟨_, h0⟩ | ⟨g, cap, cur, h1, _, _, _, h2, _⟩⟩ := hok'
    · simp at h0
    · exact ⟨g, cap, h1, h2⟩
  subst hkv
  have hkc := World.ownsRow.cellAt hok' 1 (by simp [cellsK])
  have hb3 : Keeps (fun i => w.heap.size ≤ i) w w2 := (Keeps.of_below HB.out).trans ((Keeps.of_below hb2).trans (hk.mono (fun i _ h => by rcases h with rfl | rfl <;> omega)) |>.mono (fun i _ h => h) |> fun h => ⟨h.os, h.tape, h.output, h.size, h.block⟩)
  have hc1 : CAt w2 p m (List.foldl wdo [] [liveP]) 1 := by simpa using hc
  have hkc' : w2.cell? ⟨g, 1, none⟩ = some (.string ⟨#[112]⟩) := by rw [hkc]; rfl
  have HC1' := Lib.hid hc1
  have HK2 := Lib.hid hb3
  have hg2 := World.block_lt_of_cell? w2 _ hkc'
  simp only at hg2
  clear hc hk hok hok' hkc hb3 hb2 hpl hml
  go_wp2_with fail
  rw [← HC2.out]
  have hb4 : Below w2.heap.size w2 (w2.alloc (.cells (cellsEv liveQ) 69)) := (Below.refl _ _).alloc (Nat.le_refl _) _
  have hpl := heap_lt HC1'.out.hd
  have hml : m < w2.heap.size := by obtain ⟨_, _, h3, _⟩ := HC1'.out.mp; exact heap_lt h3
  refine (take_any p m _ 1 [liveQ] (some ⟨w2.heap.size, 0, none⟩) 1 _ (HC1'.out.below hb4) (evs_one heap_alloc_eq) (by simp) (by omega) (fun x e => by simp at e; subst e; simp only; omega)).mono ?_
  rintro e w3 hT
  unfold TakePost at hT
  rw [show follows 1 [liveQ] = false by decide] at hT
  obtain ⟨rfl, hb5⟩ := hT
  have hb6 := hb4.trans (hb5.mono hb4.size)
  have hk3 : w3.cell? ⟨g, 1, none⟩ = some (.string ⟨#[112]⟩) := (hb6.cell (p := ⟨g, 1, none⟩) hg2).trans hkc'
  have HC3 := Lib.hid (HC1'.out.below hb6)
  have HK3 := Lib.hid (HK2.out.trans (Keeps.of_below hb6))
  clear hb4 hb5 hb6 hpl hml
  unfold maxLen at hcap
  go_wp2_with (first
    | (go_at_call 23; refine (cversion_any p m _ 1 _ HC3.out).mono ?_; rintro e w4 ⟨rfl, rfl⟩)
    | fail)
  go_ret
  exact ⟨rfl, HK3.out.below (fun i hi h => by omega)⟩

end Go.Proofs.Ytpclhiookajiiaa
