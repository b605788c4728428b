/- Layer 6 (store), plainly: objects by their keys, in whatever order they lie. -/
import Derived.Test.YtobpohjhhelljaaS12
import Derived.Test.YtobpohjhhelljaaS14
namespace Go.Proofs.Ytobpohjhhelljaa
open Go.RowKit
set_option linter.unusedVariables false
set_option linter.unusedSimpArgs false


theorem assoc_iff {α : Type} {l : List (GKey × α)} (h : (l.map (·.1)).Nodup) {k : GKey} {o : α} : assoc l k = some o ↔ (k, o) ∈ l := by
  unfold assoc
  constructor
  · intro hf
    cases hx : l.find? (fun p => decide (k = p.1)) with
    | none => rw [hx] at hf; cases hf
    | some x =>
      rw [hx] at hf
      simp at hf
      have h2 : k = x.1 := by have := List.find?_some hx; simpa using this
      have h3 := List.mem_of_find?_eq_some hx
      obtain ⟨a, b⟩ := x
      simp only at hf h2
      subst hf; subst h2
      exact h3
  · intro hm
    cases hx : l.find? (fun p => decide (k = p.1)) with
    | none =>
      have := List.find?_eq_none.1 hx _ hm
      simp at this
    | some x =>
      have h2 : k = x.1 := by have := List.find?_some hx; simpa using this
      have h3 := List.mem_of_find?_eq_some hx
      have := nodup_inj h h3 hm h2.symm
      rw [this]; rfl
theorem assoc_none {α : Type} {l : List (GKey × α)} {k : GKey} : assoc l k = none ↔ ∀ x ∈ l, x.1 ≠ k := by
  unfold assoc
  rw [Option.map_eq_none_iff, List.find?_eq_none]
  constructor
  · intro h x hx e
    exact h x hx (by simp [e])
  · intro h x hx e
    exact h x hx (of_decide_eq_true e).symm
theorem keys_perm {α : Type} {l l' : List (GKey × α)} (p : l'.Perm l) (h : (l.map (·.1)).Nodup) : (l'.map (·.1)).Nodup := (p.map _).nodup_iff.2 h
theorem assoc_perm {α : Type} {l l' : List (GKey × α)} (p : l'.Perm l) (h : (l.map (·.1)).Nodup) (k : GKey) : assoc l' k = assoc l k := by
  cases hx : assoc l k with
  | none => exact assoc_none.2 fun x hm => assoc_none.1 hx x (p.mem_iff.1 hm)
  | some o => exact (assoc_iff (keys_perm p h)).2 (p.mem_iff.2 ((assoc_iff h).1 hx))
theorem changeM_perm {ms ms' : List (GKey × Obj)} (p : ms'.Perm ms) (h : (ms.map (·.1)).Nodup) (cs : List Ev) (o : Obj) : changeM ms' cs o = changeM ms cs o := by
  unfold changeM
  rw [assoc_perm p h, p.length_eq]
theorem putM_perm {ms ms' : List (GKey × Obj)} (p : ms'.Perm ms) (h : (ms.map (·.1)).Nodup) (cs : List Ev) (n most : Nat) (o : Obj) : (putM ms' cs n most o).1 = (putM ms cs n most o).1 ∧ (putM ms' cs n most o).2.1 = (putM ms cs n most o).2.1 := by
  unfold putM
  rw [changeM_perm p h]
  split
  · split <;> exact ⟨rfl, rfl⟩
  · exact ⟨rfl, rfl⟩
theorem assoc_cons {α : Type} (x : GKey × α) (l : List (GKey × α)) (k : GKey) : assoc (x :: l) k = if k = x.1 then some x.2 else assoc l k := by
  unfold assoc
  rw [List.find?_cons]
  by_cases h : k = x.1
  · simp [h]
  · simp [h]
theorem assocPut_cons {α : Type} (x : GKey × α) (l : List (GKey × α)) (k : GKey) (o : α) : assocPut (x :: l) k o = if k = x.1 then (k, o) :: l else x :: assocPut l k o := by
  unfold assocPut
  rw [List.findIdx?_cons]
  by_cases h : k = x.1
  · simp [h]
  · simp [h]
    cases List.findIdx? (fun p => decide (k = p.1)) l with
    | none => simp
    | some j => simp
theorem assocDel_cons {α : Type} (x : GKey × α) (l : List (GKey × α)) (k : GKey) : assocDel (x :: l) k = if k = x.1 then l else x :: assocDel l k := by
  unfold assocDel
  rw [List.findIdx?_cons]
  by_cases h : k = x.1
  · simp [h]
  · simp [h]
    cases List.findIdx? (fun p => decide (k = p.1)) l with
    | none => simp
    | some j => simp
theorem assoc_put {α : Type} (l : List (GKey × α)) (k k' : GKey) (o : α) : assoc (assocPut l k o) k' = if k' = k then some o else assoc l k' := by
  induction l with
  | nil =>
    show assoc [(k, o)] k' = _
    rw [assoc_cons]
  | cons x l ih =>
    rw [assocPut_cons]
    by_cases h : k = x.1
    · rw [if_pos h, assoc_cons, assoc_cons]
      by_cases h2 : k' = k
      · simp [h2]
      · rw [if_neg h2, if_neg h2, if_neg (fun e => h2 (e.trans h.symm))]
    · rw [if_neg h, assoc_cons, assoc_cons, ih]
      by_cases h2 : k' = x.1
      · rw [if_pos h2, if_pos h2, if_neg (fun e => h (e.symm.trans h2))]
      · rw [if_neg h2, if_neg h2]
theorem SM.keys {w : World} {B : Nat} {L : SLoc} {cv : Value} {ms : List (GKey × Obj)} {cs : List Ev} (h : SM w B L cv ms cs) : (ms.map (·.1)).Nodup := by
  obtain ⟨_, _, _, hr⟩ := h.mp
  exact hr.keys
theorem SA.all_lo {w : World} {B : Nat} {L : SLoc} {cv lv : Value} {ms : List (GKey × Obj)} {cs : List Ev} {n most : Nat} (h : SA w B L cv lv ms cs n most) {i : Nat} (hi : L.all cv lv i) : B ≤ i ∧ i < w.heap.size := by
  rcases hi with hi | hi | hi
  · exact h.sm.mine_lo hi
  · rw [hi]; exact ⟨h.lg.base, h.lg.lt.1⟩
  · exact h.lg.lt.2 i hi
theorem SA.keep {w w' : World} {B : Nat} {L : SLoc} {cv lv : Value} {ms : List (GKey × Obj)} {cs : List Ev} {n most : Nat} (h : SA w B L cv lv ms cs n most) (hk : Keeps (L.all cv lv) w w') (hB : B ≤ w.heap.size) : Below B w w' :=
  ⟨hk.os, hk.tape, hk.output, hk.size, fun k hkk => hk.block k (by omega) (fun hx => by have := (h.all_lo hx).1; omega)⟩
theorem SA.kept {w w' : World} {B : Nat} {L : SLoc} {cv lv : Value} {ms : List (GKey × Obj)} {cs : List Ev} {n most : Nat} (h : SA w B L cv lv ms cs n most) (hk : ∀ i, i < w.heap.size → L.all cv lv i → w'.heap[i]? = w.heap[i]?) : SA w' B L cv lv ms cs n most :=
  ⟨h.sm.kept fun i hi hm => hk i hi (.inl hm), h.lg.kept fun i hi => hk i (by rcases hi with rfl | hi; exact h.lg.lt.1; exact (h.lg.lt.2 i hi).2) (.inr hi), h.ok, h.om, h.vr⟩

end Go.Proofs.Ytobpohjhhelljaa
