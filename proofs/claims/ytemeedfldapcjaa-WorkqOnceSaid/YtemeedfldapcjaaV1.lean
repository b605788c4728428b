/- A part of the walks: contracts of functions. -/
import Derived.Test.YtemeedfldapcjaaT5
namespace Go.Proofs.Ytemeedfldapcjaa
open Go.RowKit
set_option linter.unusedVariables false
set_option linter.unusedSimpArgs false
theorem DeedsAt.below {w w' : World} {v : Value} {ds : List Deed} (h : DeedsAt w v ds) (hb : Below w.heap.size w w') : DeedsAt w' v ds := by
  obtain ⟨⟨ao, cap, hv, h1, h2, h3⟩, hn⟩ := h
  refine ⟨⟨ao, cap, hv, h1, h2, fun h0 => ?_⟩, hn⟩
  obtain ⟨a, ha, hlt, hc⟩ := h3 h0
  exact ⟨a, ha, Nat.lt_of_lt_of_le hlt hb.size, fun j hj o ho => (hb.cell (p := (a.add (j * 4)).add o) (by rw [add_block, add_block]; exact hlt)).trans (hc j hj o ho)⟩

/-! ### what List lists: each key that waits, once -/
theorem drain_mem : ∀ (n : Nat) (l : List (GKey × (Int × Int))), l.length = n → (l.map (·.1)).Nodup → (drain n l).Nodup ∧ ∀ k, k ∈ drain n l ↔ k ∈ l.map (·.1) := by
  intro n
  induction n with
  | zero => intro l hl _; have : l = [] := List.eq_nil_of_length_eq_zero hl; subst this; simp [drain]
  | succ n ih =>
    intro l hl hn
    cases hb : bestL l with
    | none => have := bestL_none hb; subst this; simp at hl
    | some p =>
      have hm := bestL_mem hb
      have hdl : (assocDel l p.1).length = n := by rw [del_len hm, hl]; rfl
      have hdn : ((assocDel l p.1).map (·.1)).Nodup := (del_sub.map _).nodup hn
      obtain ⟨i1, i2⟩ := ih _ hdl hdn
      have hnot : p.1 ∉ (assocDel l p.1).map (·.1) := by
        intro h
        obtain ⟨v, hv⟩ := assoc_some_of h
        rw [assoc_del hn, if_pos rfl] at hv; cases hv
      simp only [drain, hb]
      refine ⟨List.nodup_cons.2 ⟨fun h => hnot ((i2 _).1 h), i1⟩, fun k => ?_⟩
      rw [List.mem_cons, i2]
      constructor
      · rintro (rfl | h)
        · exact List.mem_map.2 ⟨p, hm, rfl⟩
        · exact (del_sub.map _).subset h
      · intro h
        by_cases hk : k = p.1
        · exact .inl hk
        · right
          obtain ⟨v, hv⟩ := assoc_some_of h
          have : assoc (assocDel l p.1) k = some v := by rw [assoc_del hn, if_neg hk]; exact hv
          exact List.mem_map.2 ⟨_, assoc_mem this, rfl⟩

/-- behind some takes of all -/
structure TK (w wr : World) (L : QLoc) (q : WQ) (rest : List GKey) : Prop where
  qa : QAt wr L q
  b : Below w.heap.size w wr
  new : ∀ i, L.mine i → w.heap.size < i
  since : Since q.waits
  ks : (q.waits.map (·.1)).Nodup
  top : ∀ p ∈ q.waits, p.2.2 ≤ topU
  eqn : drain q.waits.length q.waits = rest
theorem TK.next {w wr w' : World} {L : QLoc} {q : WQ} {rest : List GKey} (h : TK w wr L q rest) (hb : Below wr.heap.size wr w') : TK w w' L q rest :=
  ⟨h.qa.keep (Keeps.of_below (F := fun _ => False) hb) (by simp) (by simp) (by simp), h.b.trans (hb.mono h.b.size), h.new, h.since, h.ks, h.top, h.eqn⟩
theorem TK.took {w wr w' : World} {L : QLoc} {q : WQ} {k : GKey} {rest : List GKey} (h : TK w wr L q (k :: rest)) (hq : QAt w' L (q.took topU)) (hk : Keeps L.mine wr w') : takeR q topU = some k ∧ TK w w' L (q.drop k) rest := by
  rcases take_top h.top with ⟨h1, h2⟩ | ⟨p, h1, h2⟩
  · have := h.eqn; rw [drain_nil _ h2] at this; cases this
  · have he := h.eqn
    rw [drain_cons h2] at he
    simp only [List.cons.injEq] at he
    have e : q.took topU = q.drop p.1 := by simp [WQ.took, h1]
    rw [e] at hq
    obtain ⟨rfl, he⟩ := he
    exact ⟨h1, hq, below_mine h.b hk (fun i hi => Nat.le_of_lt (h.new i hi)), h.new, since_del h.since, (del_sub.map _).nodup h.ks, fun x hx => h.top x (del_sub.subset hx), he⟩
theorem TK.empty {w wr : World} {L : QLoc} {q : WQ} (h : TK w wr L q []) : q.waits = [] := by
  rcases take_top h.top with ⟨_, h2⟩ | ⟨p, _, h2⟩
  · exact bestL_none h2
  · have := h.eqn; rw [drain_cons h2] at this; cases this

theorem nodup_inj {l : List GKey} (hn : l.Nodup) {i j : Nat} (hi : i < l.length) (hj : j < l.length) (h : l[i] = l[j]) : i = j := by
  rcases Nat.lt_trichotomy i j with h1 | h1 | h1
  · exact absurd h ((List.pairwise_iff_getElem.1 hn) i j hi hj h1)
  · exact h1
  · exact absurd h.symm ((List.pairwise_iff_getElem.1 hn) j i hj hi h1)
/-- how often a key stands in a list of different ones -/
theorem count_once {l : List GKey} (hn : l.Nodup) {k : GKey} (hk : k ∈ l) : ∃ (i : Nat) (hi : i < l.length), l[i] = k ∧ ∀ (j : Nat) (hj : j < l.length), l[j] = k → j = i := by
  obtain ⟨i, hi, rfl⟩ := List.getElem_of_mem hk
  exact ⟨i, hi, rfl, fun j hj h => nodup_inj hn hj hi h⟩

/-- while the key is added -/
structure AD (w wr : World) (L : QLoc) (q : WQ) (k : GKey) (j : Nat) : Prop where
  qa : QAt wr L q
  b : Below w.heap.size w wr
  new : ∀ i, L.mine i → w.heap.size < i
  rel : ∃ r, Rel q r (60 + j)
  has : 0 < j → ∃ p, assoc q.waits k = some p
theorem AD.code {w wr : World} {L : QLoc} {q : WQ} {k : GKey} {j : Nat} (h : AD w wr L q k j) (hj : j ≤ 60) : q.code k = 0 ∧ q.full k = false := by
  obtain ⟨r, hr⟩ := h.rel
  have := hr.len
  have hf : q.full k = false := by unfold WQ.full; rw [show decide (256 ≤ q.waits.length) = false by simp; omega, Bool.and_false]
  exact ⟨by simp [WQ.code, hf], hf⟩
theorem AD.next {w wr w' : World} {L : QLoc} {q : WQ} {k : GKey} {j : Nat} (h : AD w wr L q k j) (hj : j ≤ 60) (hq : QAt w' L (q.add k)) (hk : Keeps L.mine wr w') : AD w w' L (q.add k) k (j + 1) := by
  obtain ⟨r, hr⟩ := h.rel
  refine ⟨hq, below_mine h.b hk (fun i hi => Nat.le_of_lt (h.new i hi)), h.new, ⟨r.add k, hr.add k⟩, fun _ => ?_⟩
  have hf := (h.code hj).2
  unfold WQ.add WQ.ins
  rw [hf]
  simp only [Bool.false_eq_true, if_false]
  unfold WQ.put
  cases ha : assoc q.waits k with
  | none => exact ⟨(q.next + 1, 0), by simp only; rw [assoc_put, if_pos rfl]⟩
  | some p => exact ⟨(p.1, 0), by simp only; rw [assoc_put, if_pos rfl]⟩
end Go.Proofs.Ytemeedfldapcjaa
