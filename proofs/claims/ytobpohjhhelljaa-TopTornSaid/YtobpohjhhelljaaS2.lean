/- Layer 6 (store): a store's memory; Version, Get, do: the program's. -/
import Derived.Test.YtobpohjhhelljaaS1
import Derived.Test.YtobpohjhhelljaaReg
import Derived.Test.YtobpohjhhelljaaTree
import Derived.Test.YtobpohjhhelljaaB13
import Derived.OwnWalk
namespace Go.Proofs.Ytobpohjhhelljaa
open Go.RowKit
set_option linter.unusedVariables false
set_option linter.unusedSimpArgs false


structure SLoc where
  p : Nat
  m : Nat
  g : Nat
/-- a store's memory but its log -/
structure SM (w : World) (B : Nat) (L : SLoc) (cv : Value) (ms : List (GKey × Obj)) (cs : List Ev) : Prop where
  hd : w.heap[L.p]? = some (.cells #[.map (some L.m), cv, .pointer (some ⟨L.g, 0, none⟩)] 75 (0, 0))
  mp : ∃ es c, w.heap[L.m]? = some (.map es c) ∧ MapRep es c encO ms
  ch : OwnE w B cv cs
  lo : B ≤ L.p ∧ B ≤ L.m
def SLoc.mine (L : SLoc) (cv : Value) (i : Nat) : Prop := i = L.p ∨ i = L.m ∨ cv.ownBlock = some i
theorem SM.kept {w w' : World} {B : Nat} {L : SLoc} {cv : Value} {ms : List (GKey × Obj)} {cs : List Ev} (h : SM w B L cv ms cs) (hk : ∀ i, i < w.heap.size → L.mine cv i → w'.heap[i]? = w.heap[i]?) : SM w' B L cv ms cs := by
  obtain ⟨es, c, h1, h2⟩ := h.mp
  exact ⟨(hk _ (heap_lt h.hd) (.inl rfl)).trans h.hd, ⟨es, c, (hk _ (heap_lt h1) (.inr (.inl rfl))).trans h1, h2⟩, ownsRow_of_heap h.ch fun k hk' => hk k (h.ch.lt k hk').2 (.inr (.inr hk')), h.lo⟩
theorem SM.below {w w' : World} {B : Nat} {L : SLoc} {cv : Value} {ms : List (GKey × Obj)} {cs : List Ev} (h : SM w B L cv ms cs) (hb : Below w.heap.size w w') : SM w' B L cv ms cs := h.kept fun i hi _ => hb.block i hi
theorem SM.lt {w : World} {B : Nat} {L : SLoc} {cv : Value} {ms : List (GKey × Obj)} {cs : List Ev} (h : SM w B L cv ms cs) : L.p < w.heap.size ∧ L.m < w.heap.size := by
  obtain ⟨es, c, h1, _⟩ := h.mp
  exact ⟨heap_lt h.hd, heap_lt h1⟩
theorem SM.mine_lo {w : World} {B : Nat} {L : SLoc} {cv : Value} {ms : List (GKey × Obj)} {cs : List Ev} (h : SM w B L cv ms cs) {i : Nat} (hi : L.mine cv i) : B ≤ i ∧ i < w.heap.size := by
  rcases hi with rfl | rfl | hi
  · exact ⟨h.lo.1, h.lt.1⟩
  · exact ⟨h.lo.2, h.lt.2⟩
  · exact h.ch.lt i hi
theorem SM.ne {w : World} {B : Nat} {L : SLoc} {cv : Value} {ms : List (GKey × Obj)} {cs : List Ev} (h : SM w B L cv ms cs) : L.p ≠ L.m ∧ cv.ownBlock ≠ some L.p ∧ cv.ownBlock ≠ some L.m := by
  obtain ⟨es, c, h1, _⟩ := h.mp
  refine ⟨fun e => ?_, fun e => ?_, fun e => ?_⟩
  · have := h.hd; rw [e, h1] at this; cases this
  · obtain ⟨_, _, h3⟩ := ownsRow_cells h.ch e
    have := h.hd
    rw [h3] at this
    cases this
  · obtain ⟨_, _, h3⟩ := ownsRow_cells h.ch e
    rw [h1] at h3
    cases h3
/-- the version of the last change -/
def verS (cs : List Ev) : Int := match cs.getLast? with
  | none => 0
  | some e => e.version
theorem verS_snoc (cs : List Ev) (e : Ev) : verS (cs ++ [e]) = e.version := by simp [verS]

theorem snoc_of {α : Type} (l : List α) : l = [] ∨ ∃ p x, l = p ++ [x] := by
  rcases List.eq_nil_or_concat l with h | ⟨p, x, h⟩
  · exact .inl h
  · exact .inr ⟨p, x, by simpa using h⟩

set_option maxRecDepth 100000 in
set_option maxHeartbeats 2000000 in
theorem sversion_any (w : World) (B : Nat) (L : SLoc) (cv : Value) (ms : List (GKey × Obj)) (cs : List Ev) (h : SM w B L cv ms cs) :
    Calls Try.prog 9 #[.pointer (some ⟨L.p, 0, none⟩)] w fun e w' => e = .returned (.int .u64 (verS cs)) ∧ Below w.heap.size w w' := by
  have h1 := h.ch
  obtain ⟨c1, f1⟩ := cells_of_block h.hd 1 cv rfl
  rcases snoc_of cs with rfl | ⟨pre, x, rfl⟩
  · obtain ⟨a, k, rfl, _⟩ := OwnE.evs h1
    clear h h1
    go_enter Try.func9, Try.ntmps9
    go_wp2
    go_ret
    exact ⟨rfl, Below.refl _ _⟩
  · have hx : (cellsEv x)[0]? = some (.int .u64 x.version) := cellsEv_0 x
    rw [verS_snoc]
    obtain ⟨a, k, rfl, hev, hle, hmx⟩ := OwnE.evs h1
    rcases hev with he | ⟨b, o, rfl, he⟩
    · simp at he
    · have hc := he pre.length x (by simp) 0 (by omega)
      rw [hx] at hc
      simp only [Nat.add_zero] at hc
      have hln : (pre ++ [x]).length = pre.length + 1 := by simp
      rw [hln] at c1 hle
      obtain ⟨n, hn⟩ : ∃ n, n = pre.length := ⟨_, rfl⟩
      rw [← hn] at c1 hc hle
      have hn1 : (n : Int) < n + 1 := by omega
      have hi : IntKind.i64.wrap (n : Int) = n := by
        unfold maxLen at hmx
        simp [IntKind.wrap, IntKind.bits, IntKind.signed]; omega
      unfold maxLen at hmx
      clear h h1 he hx hln hn
      go_enter Try.func9, Try.ntmps9
      go_wp2
      go_still (by kernel_rfl)
      go_wp2
      go_ret
      exact ⟨rfl, (Below.refl _ _).drew⟩

set_option maxRecDepth 100000 in
set_option maxHeartbeats 4000000 in
theorem sget_any (w : World) (B : Nat) (L : SLoc) (cv : Value) (ms : List (GKey × Obj)) (cs : List Ev) (h : SM w B L cv ms cs) (k : GKey) :
    Calls Try.prog 13 #[.pointer (some ⟨L.p, 0, none⟩), .agg #[.int .u8 k.kind, .string k.name]] w fun e w' => e = .returned (.tuple #[.agg (cellsO ((assoc ms k).getD objZ)), .bool (assoc ms k).isSome]) ∧ Below w.heap.size w w' := by
  have hZ := objZ_cells
  simp only [noText] at hZ
  have HZ := Lib.hid hZ
  clear hZ
  obtain ⟨W0, hW0⟩ : ∃ W0, W0 = (w.alloc (.cells #[.int .u8 k.kind, .string k.name] 45)).alloc (.cells (cellsO objZ) 31) := ⟨_, rfl⟩
  have hb0 : Below w.heap.size w W0 := hW0 ▸ ((Below.refl _ w).alloc (Nat.le_refl _) _).alloc (by simp) _
  have hsz : W0.heap.size = w.heap.size + 2 := by rw [hW0]; simp
  have hkb : W0.heap[w.heap.size]? = some (.cells #[.int .u8 k.kind, .string k.name] 45 (0, 0)) := by rw [hW0]; exact (heap_alloc_lt (by simp)).trans heap_alloc_eq
  have hrb : W0.heap[w.heap.size + 1]? = some (.cells (cellsO objZ) 31 (0, 0)) := by
    have := World.alloc_heap_new (w.alloc (.cells #[.int .u8 k.kind, .string k.name] 45)) (.cells (cellsO objZ) 31)
    rwa [World.size_alloc, ← hW0] at this
  have hS := h.below hb0
  obtain ⟨es, c, hm, hr⟩ := hS.mp
  obtain ⟨p0, q0⟩ := cells_of_block hS.hd 0 (.map (some L.m)) rfl
  obtain ⟨k0, j0⟩ := cells_of_block hkb 0 (.int .u8 k.kind) rfl
  obtain ⟨k1, j1⟩ := cells_of_block hkb 1 (.string k.name) rfl
  have hLk : ∀ x : World, x.heap[L.m]? = some (.map es c) → (Instr.lookup 73 (.map (some L.m)) (.agg #[.int .u8 k.kind, .string k.name]) true).run Try.prog x = .ok (.tuple #[.agg (cellsO ((assoc ms k).getD objZ)), .bool (assoc ms k).isSome]) x := fun x hx => run_lookup_ok keyOK undMap objZ zeroObj hr k x hx
  have hLd := hLk W0.drew hm
  obtain ⟨o, ho⟩ : ∃ o, o = (assoc ms k).getD objZ := ⟨_, rfl⟩
  obtain ⟨i, hi⟩ : ∃ i, i = (assoc ms k).isSome := ⟨_, rfl⟩
  rw [← ho, ← hi] at hLd hLk
  rw [← ho, ← hi]
  have hkeep : ∀ wz : World, Below W0.heap.size W0 wz → (wz.cell? ⟨L.p, 0, none⟩ = some (.map (some L.m))) ∧ (wz.cell? ⟨w.heap.size, 0, none⟩ = some (.int .u8 k.kind)) ∧ (wz.cell? ⟨w.heap.size, 1, none⟩ = some (.string k.name)) ∧ (wz.heap[L.m]? = some (.map es c)) := fun wz hb =>
    ⟨(hb.cell (p := ⟨L.p, 0, none⟩) (heap_lt hS.hd)).trans p0, (hb.cell (p := ⟨w.heap.size, 0, none⟩) (heap_lt hkb)).trans k0, (hb.cell (p := ⟨w.heap.size, 1, none⟩) (heap_lt hkb)).trans k1, (hb.block _ (heap_lt hm)).trans hm⟩
  have HB0 := Lib.hid hb0
  have HSZ := Lib.hid hsz
  have HRB := Lib.hid hrb
  have hW0' := hW0
  conv at hW0' => rhs; rw [HZ.out]
  have HW0 := Lib.hid hW0'
  have hq : (W0.drew.alloc (.cells (cellsO objZ) 31)).heap[W0.heap.size]? = some (.cells (cellsO objZ) 31 (0, 0)) := heap_alloc_eq
  conv at hq => lhs; rw [HZ.out]
  have HQ := Lib.hid hq
  have hbn := (Below.refl _ W0).drew.trans (below_new W0.drew (.cells (cellsO objZ) 31) (.cells (cellsO o) 31 (0, 0)))
  have hnb := new_box W0.drew (.cells (cellsO objZ) 31) (cellsO o) 31
  obtain ⟨W2, hW2⟩ : ∃ W, W = Wset (W0.drew.alloc (.cells (cellsO objZ) 31)) W0.drew.heap.size (.cells (cellsO o) 31 (0, 0)) := ⟨_, rfl⟩
  rw [← hW2] at hbn hnb
  have HW2 := Lib.hid hW2
  have HB2 := Lib.hid hbn
  have HN := Lib.hid hnb
  have hrb2 := (hbn.block _ (heap_lt hrb)).trans hrb
  have HRB2 := Lib.hid hrb2
  clear hb0 hsz hrb hW0 hr hm hkb hS h ho hi hW0' hq hW2 hbn hnb hLd hrb2
  go_enter Try.func13, Try.ntmps13
  go_wp2_with fail
  rw [← HW0.out]
  refine wp_region_tree (fun w' => (w'.cell? ⟨L.p, 0, none⟩ = some (.map (some L.m))) ∧ (w'.cell? ⟨w.heap.size, 0, none⟩ = some (.int .u8 k.kind)) ∧ (w'.cell? ⟨w.heap.size, 1, none⟩ = some (.string k.name)) ∧ (w'.heap[L.m]? = some (.map es c))) (.t 0 (.t 1 (.t 2 (.t 3 (.t 4 (.t 5 (.t 6 (.t 7 (.t 8 (.a 9 (.a 10 (.t 11 .nil)))))))))))) (by kernel_rfl) (by kernel_rfl) (by kernel_rfl) ?_ ?_
  · exact (hkeep _ (by first | exact (Below.refl _ _).drew | exact (Below.refl _ _).drew.alloc (Nat.le_refl _) _ | exact HB2.out))
  iterate 9
   apply wpT_takeK rfl _ (by first | rfl | (simp [Region.wanted, yielded]; done))
   · intro w' hS
     obtain ⟨s0, s1, s2, s3⟩ := hS
     skip
     go_simp
     try rfl
   intro K hK
   go_simp
   refine hK _ ?_
   clear hK K
  refine wpT_alone rfl ?_
  focus go_wp2
  refine QS_normal (hkeep _ (by first | exact (Below.refl _ _).drew | exact (Below.refl _ _).drew.alloc (Nat.le_refl _) _ | exact HB2.out)) (fun _ => ?_)
  refine wpT_alone rfl ?_
  focus (go_wp2_with (first | (refine wpList_storeObj rfl _ _ rfl W0.heap.size rfl o rfl _ HQ.out rfl ?_; rw [← HZ.out]; change wpList _ _ _ _ _ (Wset (W0.drew.alloc (.cells (cellsO objZ) 31)) W0.drew.heap.size (.cells (cellsO o) 31 (0, 0))); rw [← HW2.out])))
  refine QS_normal (hkeep _ (by first | exact (Below.refl _ _).drew | exact (Below.refl _ _).drew.alloc (Nat.le_refl _) _ | exact HB2.out)) (fun _ => ?_)
  apply wpT_takeK rfl _ (by first | rfl | (simp [Region.wanted, yielded]; done))
  · intro w' hS
    obtain ⟨s0, s1, s2, s3⟩ := hS
    skip
    go_simp
    try rfl
  intro K hK
  go_simp
  refine hK _ ?_
  clear hK K
  refine wpT_end ?_
  go_wp2_with (first
    | refine wpList_loadObj rfl _ rfl W0.heap.size rfl o (cells_all HN.out) ?_
    | refine wpList_storeObj rfl _ _ rfl (w.heap.size + 1) rfl o rfl _ HRB2.out rfl ?_
    | fail)
  exact bodyPost_ret (results_os o rfl rfl rfl (cells_all (Wset_same (heap_lt HRB2.out)))) rfl ⟨rfl, belowWs (HB0.out.trans (HB2.out.mono HB0.out.size)) (Nat.le_succ _)⟩

end Go.Proofs.Ytobpohjhhelljaa
