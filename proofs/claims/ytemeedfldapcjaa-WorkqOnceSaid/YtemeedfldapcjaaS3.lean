/- A part of the walks: contracts of functions. -/
import Derived.Test.YtemeedfldapcjaaS2
namespace Go.Proofs.Ytemeedfldapcjaa
open Go.RowKit
set_option linter.unusedVariables false
set_option linter.unusedSimpArgs false
/-! ### both queues, side by side -/
abbrev pi (p : GKey × (Int × Int)) : GKey × Int := (p.1, p.2.2)

structure Rel (q : WQ) (r : RQ) (n : Nat) : Prop where
  l : q.waits.map pi = r.l
  since : Since q.waits
  le : ∀ p ∈ q.waits, p.2.1 ≤ q.next
  keys : (q.waits.map (·.1)).Nodup
  fkeys : (q.fails.map (·.1)).Nodup
  f : ∀ k, (assoc q.fails k).getD 0 = (assoc r.fs k).getD 0
  fb : ∀ k, 0 ≤ (assoc q.fails k).getD 0 ∧ (assoc q.fails k).getD 0 ≤ 40
  nx : 0 ≤ q.next ∧ q.next ≤ n
  len : q.waits.length ≤ n
  flen : r.fs.length ≤ n
  top : ∀ p ∈ q.waits, p.2.2 ≤ topU

section
variable {α β : Type}
theorem findIdx_pi (l : List (GKey × (Int × Int))) (k : GKey) : (l.map pi).findIdx? (fun p => decide (k = p.1)) = l.findIdx? (fun p => decide (k = p.1)) := by
  rw [List.findIdx?_map]; rfl
theorem assoc_pi (l : List (GKey × (Int × Int))) (k : GKey) : assoc (l.map pi) k = (assoc l k).map (·.2) := by
  rw [assoc_eq, assoc_eq, findIdx_pi]
  cases l.findIdx? (fun p => decide (k = p.1)) with
  | none => rfl
  | some i => simp only [Option.bind_some, List.getElem?_map]; cases l[i]? <;> rfl
theorem assocPut_pi (l : List (GKey × (Int × Int))) (k : GKey) (v : Int × Int) : (assocPut l k v).map pi = assocPut (l.map pi) k v.2 := by
  simp only [assocPut, findIdx_pi]
  cases l.findIdx? (fun p => decide (k = p.1)) with
  | none => simp
  | some i => simp [List.map_set]
theorem assocDel_pi (l : List (GKey × (Int × Int))) (k : GKey) : (assocDel l k).map pi = assocDel (l.map pi) k := by
  simp only [assocDel, findIdx_pi]
  cases l.findIdx? (fun p => decide (k = p.1)) with
  | none => simp
  | some i => simp [map_eraseIdx]

theorem assoc_cons (p : GKey × α) (l : List (GKey × α)) (k : GKey) : assoc (p :: l) k = if k = p.1 then some p.2 else assoc l k := by
  unfold assoc
  by_cases h : k = p.1 <;> simp [List.find?_cons, h]
theorem assocPut_cons (p : GKey × α) (l : List (GKey × α)) (k : GKey) (v : α) : assocPut (p :: l) k v = if k = p.1 then (k, v) :: l else p :: assocPut l k v := by
  unfold assocPut
  by_cases h : k = p.1
  · simp [List.findIdx?_cons, h]
  · simp only [List.findIdx?_cons, h, decide_false, Bool.false_eq_true, if_false]
    cases l.findIdx? (fun p => decide (k = p.1)) <;> simp
theorem assocDel_cons (p : GKey × α) (l : List (GKey × α)) (k : GKey) : assocDel (p :: l) k = if k = p.1 then l else p :: assocDel l k := by
  unfold assocDel
  by_cases h : k = p.1
  · simp [List.findIdx?_cons, h]
  · simp only [List.findIdx?_cons, h, decide_false, Bool.false_eq_true, if_false]
    cases l.findIdx? (fun p => decide (k = p.1)) <;> simp
theorem assoc_put (l : List (GKey × α)) (k k' : GKey) (v : α) : assoc (assocPut l k v) k' = if k' = k then some v else assoc l k' := by
  induction l with
  | nil => simp [assocPut, assoc_cons]
  | cons p l ih =>
    rw [assocPut_cons]
    by_cases h : k = p.1
    · subst h
      rw [if_pos rfl, assoc_cons, assoc_cons]
      by_cases h2 : k' = p.1 <;> simp [h2]
    · rw [if_neg h, assoc_cons, assoc_cons, ih]
      by_cases h2 : k' = p.1
      · subst h2; rw [if_pos rfl, if_pos rfl, if_neg (fun e => h e.symm)]
      · rw [if_neg h2, if_neg h2]
theorem assoc_mem {l : List (GKey × α)} {k : GKey} {v : α} (h : assoc l k = some v) : (k, v) ∈ l := by
  induction l with
  | nil => simp [assoc] at h
  | cons p l ih =>
    rw [assoc_cons] at h
    by_cases hk : k = p.1
    · rw [if_pos hk] at h
      obtain rfl : p.2 = v := by simpa using h
      subst hk; simp
    · rw [if_neg hk] at h; exact List.mem_cons_of_mem _ (ih h)
theorem assoc_not {l : List (GKey × α)} {k : GKey} (h : k ∉ l.map (·.1)) : assoc l k = none := by
  induction l with
  | nil => simp [assoc]
  | cons p l ih =>
    simp only [List.map_cons, List.mem_cons, not_or] at h
    rw [assoc_cons, if_neg h.1]; exact ih h.2
theorem assoc_some_of {l : List (GKey × α)} {k : GKey} (h : k ∈ l.map (·.1)) : ∃ v, assoc l k = some v := by
  induction l with
  | nil => simp at h
  | cons p l ih =>
    rw [assoc_cons]
    by_cases hk : k = p.1
    · exact ⟨_, if_pos hk⟩
    · rw [if_neg hk]
      simp only [List.map_cons, List.mem_cons] at h
      exact ih (h.resolve_left hk)
theorem mem_put {l : List (GKey × α)} {k : GKey} {v : α} {p : GKey × α} (h : p ∈ assocPut l k v) : p = (k, v) ∨ p ∈ l := by
  induction l with
  | nil => simp [assocPut] at h; exact .inl h
  | cons a l ih =>
    rw [assocPut_cons] at h
    by_cases hk : k = a.1
    · rw [if_pos hk] at h
      rcases List.mem_cons.1 h with h | h
      · exact .inl h
      · exact .inr (List.mem_cons_of_mem _ h)
    · rw [if_neg hk] at h
      rcases List.mem_cons.1 h with h | h
      · exact .inr (by simp [h])
      · exact (ih h).imp id (List.mem_cons_of_mem _)
theorem keys_put {l : List (GKey × α)} {k : GKey} {v : α} (h : (l.map (·.1)).Nodup) : ((assocPut l k v).map (·.1)).Nodup := by
  induction l with
  | nil => simp [assocPut]
  | cons a l ih =>
    simp only [List.map_cons, List.nodup_cons] at h
    rw [assocPut_cons]
    by_cases hk : k = a.1
    · rw [if_pos hk]; simp only [List.map_cons, List.nodup_cons]; rw [hk]; exact h
    · rw [if_neg hk]; simp only [List.map_cons, List.nodup_cons]
      refine ⟨fun hm => ?_, ih h.2⟩
      obtain ⟨p, hp, hpk⟩ := List.mem_map.1 hm
      rcases mem_put hp with rfl | hp
      · exact hk hpk
      · exact h.1 (List.mem_map.2 ⟨p, hp, hpk⟩)
theorem del_sub {l : List (GKey × α)} {k : GKey} : (assocDel l k).Sublist l := by
  unfold assocDel
  split
  · exact List.eraseIdx_sublist _ _
  · exact List.Sublist.refl _
theorem assoc_del {l : List (GKey × α)} (hn : (l.map (·.1)).Nodup) (k k' : GKey) : assoc (assocDel l k) k' = if k' = k then none else assoc l k' := by
  induction l with
  | nil => simp [assocDel, assoc]
  | cons p l ih =>
    simp only [List.map_cons, List.nodup_cons] at hn
    rw [assocDel_cons]
    by_cases h : k = p.1
    · subst h
      rw [if_pos rfl, assoc_cons]
      by_cases h2 : k' = p.1
      · subst h2; rw [if_pos rfl]; exact assoc_not hn.1
      · rw [if_neg h2, if_neg h2]
    · rw [if_neg h, assoc_cons, assoc_cons, ih hn.2]
      by_cases h2 : k' = p.1
      · subst h2; rw [if_pos rfl, if_pos rfl, if_neg (fun e => h e.symm)]
      · rw [if_neg h2, if_neg h2]
end

theorem assoc_append {α : Type} (l m : List (GKey × α)) (k : GKey) : assoc (l ++ m) k = (assoc l k).or (assoc m k) := by
  induction l with
  | nil => simp [assoc]
  | cons p l ih => rw [List.cons_append, assoc_cons, assoc_cons, ih]; split <;> simp
theorem assoc_filter (fs : List (GKey × Int)) (k k' : GKey) : assoc (fs.filter fun p => !decide (p.1 = k)) k' = if k' = k then none else assoc fs k' := by
  induction fs with
  | nil => simp [assoc]
  | cons p l ih =>
    by_cases h : p.1 = k
    · rw [List.filter_cons_of_neg (by simp [h]), ih, assoc_cons]
      by_cases h2 : k' = k
      · simp [h2]
      · rw [if_neg h2, if_neg h2, if_neg (fun e => h2 (e.trans h))]
    · rw [List.filter_cons_of_pos (by simp [h]), assoc_cons, assoc_cons, ih]
      by_cases h2 : k' = p.1
      · rw [if_pos h2, if_pos h2, if_neg (fun e => h (h2.symm.trans e))]
      · rw [if_neg h2, if_neg h2]
theorem assoc_setF (fs : List (GKey × Int)) (k k' : GKey) (n : Int) (hn : 0 ≤ n) : (assoc (setF fs k n) k').getD 0 = if k' = k then n else (assoc fs k').getD 0 := by
  unfold setF
  rw [assoc_append, assoc_filter]
  by_cases h : k' = k
  · subst h
    rw [if_pos rfl, if_pos rfl]
    by_cases h0 : 0 < n
    · simp [h0, assoc_cons]
    · have : n = 0 := by omega
      subst this; simp [assoc]
  · rw [if_neg h, if_neg h]
    cases assoc fs k' with
    | some v => rfl
    | none =>
      by_cases h0 : 0 < n
      · simp [h0, assoc_cons, h]; simp [assoc]
      · simp [h0, assoc]
theorem setF_len (fs : List (GKey × Int)) (k : GKey) (n : Int) : (setF fs k n).length ≤ fs.length + 1 := by
  unfold setF
  have := List.length_filter_le (fun p : GKey × Int => !decide (p.1 = k)) fs
  rw [List.length_append]
  split <;> simp <;> omega
theorem put_len {α : Type} (l : List (GKey × α)) (k : GKey) (v : α) : (assocPut l k v).length ≤ l.length + 1 := by
  unfold assocPut; split <;> simp

theorem since_put_old {l : List (GKey × (Int × Int))} {k : GKey} {p : Int × Int} {d : Int} (hs : Since l) (h : assoc l k = some p) : Since (assocPut l k (p.1, d)) := by
  have e : (assocPut l k (p.1, d)).map (·.2.1) = l.map (·.2.1) := by
    clear hs
    induction l with
    | nil => simp [assoc] at h
    | cons a l ih =>
      rw [assocPut_cons]
      rw [assoc_cons] at h
      by_cases hk : k = a.1
      · rw [if_pos hk] at h ⊢
        obtain rfl : a.2 = p := by simpa using h
        rfl
      · rw [if_neg hk] at h ⊢
        simp [ih h]
  unfold Since at *
  rw [← List.pairwise_map (f := fun x : GKey × (Int × Int) => x.2.1) (R := fun a b => a < b)] at hs ⊢
  rw [e]; exact hs
theorem assocPut_none {α : Type} {l : List (GKey × α)} {k : GKey} {v : α} (h : assoc l k = none) : assocPut l k v = l ++ [(k, v)] := by
  induction l with
  | nil => simp [assocPut]
  | cons a l ih =>
    rw [assoc_cons] at h
    by_cases hk : k = a.1
    · rw [if_pos hk] at h; cases h
    · rw [if_neg hk] at h; rw [assocPut_cons, if_neg hk, ih h]; rfl

theorem Rel.full {q : WQ} {r : RQ} {n : Nat} (h : Rel q r n) (k : GKey) : q.full k = r.full k := by
  unfold WQ.full RQ.full
  rw [← h.l, assoc_pi]
  simp
theorem Rel.code {q : WQ} {r : RQ} {n : Nat} (h : Rel q r n) (k : GKey) : q.code k = r.code k := by
  unfold WQ.code RQ.code; rw [h.full]

/-- a key is put on both -/
theorem Rel.put {q : WQ} {r : RQ} {n : Nat} (h : Rel q r n) (k : GKey) (d : Int) (f' fs' : List (GKey × Int)) (hk : (f'.map (·.1)).Nodup) (hf : ∀ k, (assoc f' k).getD 0 = (assoc fs' k).getD 0) (hb : ∀ k, 0 ≤ (assoc f' k).getD 0 ∧ (assoc f' k).getD 0 ≤ 40) (hl : fs'.length ≤ n + 1) (hd : d ≤ topU) :
    Rel (q.put k d f') { l := assocPut r.l k d, fs := fs' } (n + 1) := by
  have hnx := h.nx
  have hle := h.len
  unfold WQ.put
  cases ha : assoc q.waits k with
  | some p =>
    refine ⟨?_, since_put_old h.since ha, fun x hx => ?_, keys_put h.keys, hk, hf, hb, ⟨hnx.1, by simp only; omega⟩, ?_, hl, fun x hx => ?_⟩
    · simp only [assocPut_pi, h.l]
    · rcases mem_put hx with rfl | hx
      · exact h.le (k, p) (assoc_mem ha)
      · exact h.le x hx
    · have := put_len q.waits k (p.1, d); simp only at *; omega
    · rcases mem_put hx with rfl | hx
      · exact hd
      · exact h.top x hx
  | none =>
    refine ⟨?_, ?_, fun x hx => ?_, keys_put h.keys, hk, hf, hb, ⟨by simp only; omega, by simp only; omega⟩, ?_, hl, fun x hx => ?_⟩
    · simp only [assocPut_pi, h.l]
    · simp only
      rw [assocPut_none ha]
      refine List.pairwise_append.2 ⟨h.since, by simp, fun a ha' b hb' => ?_⟩
      simp at hb'; subst hb'
      have := h.le a ha'
      simp only; omega
    · rcases mem_put hx with rfl | hx
      · simp
      · have := h.le x hx; simp only; omega
    · have := put_len q.waits k (q.next + 1, d); simp only at *; omega
    · rcases mem_put hx with rfl | hx
      · exact hd
      · exact h.top x hx

theorem Rel.mono {q : WQ} {r : RQ} {n m : Nat} (h : Rel q r n) (hm : n ≤ m) : Rel q r m :=
  ⟨h.l, h.since, h.le, h.keys, h.fkeys, h.f, h.fb, ⟨h.nx.1, by have := h.nx.2; omega⟩, Nat.le_trans h.len hm, Nat.le_trans h.flen hm, h.top⟩

theorem Rel.add {q : WQ} {r : RQ} {n : Nat} (h : Rel q r n) (k : GKey) : Rel (q.add k) (r.add k) (n + 1) := by
  unfold WQ.add WQ.ins RQ.add
  rw [← h.full]
  by_cases hf : q.full k = true
  · rw [if_pos hf, if_pos hf]; exact h.mono (by omega)
  · rw [if_neg hf, if_neg hf]
    exact h.put k 0 q.fails r.fs h.fkeys h.f h.fb (by have := h.flen; omega) (by unfold topU; omega)
theorem Rel.fail {q : WQ} {r : RQ} {n : Nat} (h : Rel q r n) (k : GKey) (now : Int) (hnow : 0 ≤ now ∧ now ≤ topU) : Rel (q.fail k now) (r.fail k now) (n + 1) := by
  unfold WQ.fail WQ.ins RQ.fail
  rw [← h.full]
  have hN : r.failN k = q.failN k := by unfold RQ.failN WQ.failN; rw [h.f]
  have hb := h.fb k
  by_cases hf : q.full k = true
  · rw [if_pos hf, if_pos hf]; exact h.mono (by omega)
  · rw [if_neg hf, if_neg hf, hN]
    have hq : 0 ≤ q.failN k ∧ q.failN k ≤ 40 := by unfold WQ.failN; omega
    refine h.put k _ (assocPut q.fails k (q.failN k)) (setF r.fs k (q.failN k)) (keys_put h.fkeys) (fun k' => ?_) (fun k' => ?_) (Nat.le_trans (setF_len _ _ _) (by have := h.flen; omega)) (by unfold failDue; omega)
    · rw [assoc_put, assoc_setF _ _ _ _ hq.1]
      split
      · rfl
      · exact h.f k'
    · rw [assoc_put]
      split
      · exact hq
      · exact h.fb k'
theorem Rel.forget {q : WQ} {r : RQ} {n : Nat} (h : Rel q r n) (k : GKey) : Rel { q with fails := assocDel q.fails k } (r.setf k 0) (n + 1) := by
  refine ⟨h.l, h.since, h.le, h.keys, (del_sub.map _).nodup h.fkeys, fun k' => ?_, fun k' => ?_, ⟨h.nx.1, by have := h.nx.2; simp only; omega⟩, by have := h.len; simp only; omega, ?_, h.top⟩
  · simp only [RQ.setf]
    rw [assoc_del h.fkeys, assoc_setF _ _ _ _ (Int.le_refl 0)]
    split
    · rfl
    · exact h.f k'
  · simp only
    rw [assoc_del h.fkeys]
    split
    · simp
    · exact h.fb k'
  · have := setF_len r.fs k 0
    have := h.flen
    simp only [RQ.setf]; omega

/-- the first one of both is one -/
theorem Rel.first {q : WQ} {r : RQ} {n : Nat} (h : Rel q r n) {i : Nat} (hi : i < r.l.length) (hf : FirstAt r.l i) : ∃ (hi' : i < q.waits.length), bestL q.waits = some q.waits[i] ∧ r.l[i] = pi q.waits[i] := by
  have hl : q.waits.length = r.l.length := by rw [← h.l]; simp
  have hi' : i < q.waits.length := by omega
  have hat : ∀ (j : Nat) (hj : j < q.waits.length) (hj2 : j < r.l.length), r.l[j] = pi q.waits[j] := by
    intro j hj hj2
    have h1 : (q.waits.map pi)[j]? = r.l[j]? := by rw [h.l]
    rw [List.getElem?_map, List.getElem?_eq_getElem hj, List.getElem?_eq_getElem hj2] at h1
    simpa using h1.symm
  refine ⟨hi', bestL_uniq h.since (List.getElem_mem hi') fun x hx => ?_, hat i hi' hi⟩
  obtain ⟨j, hj, rfl⟩ := List.getElem_of_mem hx
  have hj2 : j < r.l.length := by omega
  rcases hf with ⟨_, h0⟩ | ⟨i', hi2, _, e, h1, h2⟩
  · omega
  · obtain rfl : i' = i := by omega
    have e1 := hat j hj hj2
    have e2 := hat i' hi' hi
    have h3 := h1 j hj2 (by omega)
    rw [e1, e2] at h3
    simp only [pi] at h3
    intro ha
    rcases ha with ha | ⟨ha, hb⟩
    · omega
    · by_cases hij : j < i'
      · have h4 := h2 j hj2 hij
        rw [e1, e2] at h4
        simp only [pi] at h4; omega
      · rcases Nat.lt_or_eq_of_le (Nat.not_lt.1 hij) with hlt | rfl
        · have := (List.pairwise_iff_getElem.1 h.since) i' j hi' hj hlt
          omega
        · omega
theorem Rel.takeNone {q : WQ} {r : RQ} {n : Nat} (h : Rel q r n) {now : Int} (hn : NoneDue r now) : takeR q now = none := by
  rcases hn with h0 | ⟨i, hi, hf, hd⟩
  · have : q.waits = [] := by have := h.l; rw [h0] at this; simpa using this
    simp [takeR, this, bestL]
  · obtain ⟨hi', hb, he⟩ := h.first hi hf
    rw [he] at hd
    simp only [pi] at hd
    simp [takeR, hb, hd]
theorem Rel.takeSome {q : WQ} {r : RQ} {n : Nat} (h : Rel q r n) {now : Int} {i : Nat} (hi : i < r.l.length) (hf : FirstAt r.l i) (hd : r.l[i].2 ≤ now) : takeR q now = some r.l[i].1 ∧ Rel (q.drop r.l[i].1) (r.drop i) n := by
  obtain ⟨hi', hb, he⟩ := h.first hi hf
  rw [he] at hd ⊢
  simp only [pi] at hd ⊢
  refine ⟨by simp [takeR, hb, hd], ?_⟩
  have hfi : q.waits.findIdx? (fun p => decide (q.waits[i].1 = p.1)) = some i := by
    refine List.findIdx?_eq_some_iff_getElem.2 ⟨hi', by simp, fun j hj => ?_⟩
    have := (List.pairwise_iff_getElem.1 h.keys) j i (by simp; omega) (by simpa using hi') hj
    simp only [List.getElem_map] at this
    simpa using fun e => this e.symm
  have hdel : assocDel q.waits q.waits[i].1 = q.waits.eraseIdx i := by unfold assocDel; rw [hfi]
  have hsub := List.eraseIdx_sublist q.waits i
  unfold WQ.drop RQ.drop
  rw [hdel]
  refine ⟨?_, h.since.sublist hsub, fun p hp => h.le p (hsub.subset hp), (hsub.map _).nodup h.keys, h.fkeys, h.f, h.fb, h.nx, Nat.le_trans hsub.length_le h.len, h.flen, fun p hp => h.top p (hsub.subset hp)⟩
  simp only [map_eraseIdx, h.l]
end Go.Proofs.Ytemeedfldapcjaa
