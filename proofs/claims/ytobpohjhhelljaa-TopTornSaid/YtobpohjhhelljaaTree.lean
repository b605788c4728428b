/- A region that draws its order, walked along a tree of its orders, under a condition on the world. -/
import Derived.Test.YtobpohjhhelljaaReg
namespace Go.Proofs.Ytobpohjhhelljaa
open Go.RowKit
set_option linter.unusedVariables false
set_option linter.unusedSimpArgs false


/-- a tree of orders: t: taken ahead of all that may come up; a: alone; f, g: two, three that stand ready together, in either order -/
inductive PT where
  | nil
  | t (k : Nat) (r : PT)
  | a (k : Nat) (r : PT)
  | f (i : Nat) (ri : PT) (j : Nat) (rj : PT)
  | g (i : Nat) (ri : PT) (j : Nat) (rj : PT) (k : Nat) (rk : PT)

def PT.ok (ops : Array Oper) : PT → Nat → Array Bool → Bool
  | .nil, n, listed => decide (n = 0) && (Region.ready .any ops listed).isEmpty
  | .t k r, n, listed => decide (0 < n) && (Region.ready .any ops listed).contains k && Region.free .any ops listed k && r.ok ops (n - 1) (listed.setIfInBounds k true)
  | .a k r, n, listed => decide (0 < n) && decide (Region.ready .any ops listed = [k]) && r.ok ops (n - 1) (listed.setIfInBounds k true)
  | .f i ri j rj, n, listed => decide (0 < n) && decide (Region.ready .any ops listed = [i, j]) && ri.ok ops (n - 1) (listed.setIfInBounds i true) && rj.ok ops (n - 1) (listed.setIfInBounds j true)
  | .g i ri j rj k rk, n, listed => decide (0 < n) && decide (Region.ready .any ops listed = [i, j, k]) && ri.ok ops (n - 1) (listed.setIfInBounds i true) && rj.ok ops (n - 1) (listed.setIfInBounds j true) && rk.ok ops (n - 1) (listed.setIfInBounds k true)

def wpT (P : Program) (ops : Array Oper) (S : World → Prop) (Q : Exit → Act → World → Prop) : PT → Act → World → Prop
  | .nil, a, w => Q .normal a w
  | .t k r, a, w => ∃ o, ops[k]? = some o ∧ ∃ v, YieldsIf P ops S o v a ∧ wpT P ops S Q r (a.put o.dst v) w
  | .a k r, a, w => ∃ o, ops[k]? = some o ∧ wpList P ops (QS S Q (wpT P ops S Q r)) [o] a w
  | .f i ri j rj, a, w => (∃ o, ops[i]? = some o ∧ wpList P ops (QS S Q (wpT P ops S Q ri)) [o] a w) ∧ (∃ o, ops[j]? = some o ∧ wpList P ops (QS S Q (wpT P ops S Q rj)) [o] a w)
  | .g i ri j rj k rk, a, w => (∃ o, ops[i]? = some o ∧ wpList P ops (QS S Q (wpT P ops S Q ri)) [o] a w) ∧ (∃ o, ops[j]? = some o ∧ wpList P ops (QS S Q (wpT P ops S Q rj)) [o] a w) ∧
      (∃ o, ops[k]? = some o ∧ wpList P ops (QS S Q (wpT P ops S Q rk)) [o] a w)

theorem wpAnyH_of_tree {P : Program} {ops : Array Oper} {S : World → Prop} {Q : Exit → Act → World → Prop} (hsel : Region.noSelect ops = true)
    (hQ : ∀ c a d v w, Q (.panic c) (Act.put a d v) w → Q (.panic c) a w) :
    ∀ (p : PT) (n : Nat) (listed : Array Bool) (a : Act) (w : World), p.ok ops n listed = true → S w → wpT P ops S Q p a w → wpAnyH P .any ops Q S n listed a w
  | .nil, n, listed, a, w, hB, _, h => by
    simp only [PT.ok, Bool.and_eq_true, decide_eq_true_eq, List.isEmpty_iff] at hB
    obtain ⟨rfl, hB⟩ := hB
    exact ⟨hB, h⟩
  | .t k r, n, listed, a, w, hB, hS, h => by
    simp only [PT.ok, Bool.and_eq_true, decide_eq_true_eq] at hB
    obtain ⟨⟨⟨hn, hr⟩, hf⟩, hB'⟩ := hB
    obtain ⟨n, rfl⟩ : ∃ m, n = m + 1 := ⟨n - 1, by omega⟩
    have hr' : k ∈ Region.ready .any ops listed := by simpa using hr
    obtain ⟨o, ho, v, hy, h2⟩ := h
    exact wpAnyH_take ho hsel hf hr (fun c a w => hQ c a _ _ w) hy hS (wpAnyH_of_tree hsel hQ r _ _ _ _ hB' hS h2)
  | .a k r, n, listed, a, w, hB, hS, h => by
    simp only [PT.ok, Bool.and_eq_true, decide_eq_true_eq] at hB
    obtain ⟨⟨hn, hr⟩, hB'⟩ := hB
    obtain ⟨n, rfl⟩ : ∃ m, n = m + 1 := ⟨n - 1, by omega⟩
    obtain ⟨o, ho, h⟩ := h
    refine wpAnyH_all hr (by simp) fun i hi => ?_
    have : i = k := by simpa using hi
    subst this
    exact wpOp_mono (fun a' w' h' => ⟨h'.1, wpAnyH_of_tree hsel hQ r _ _ _ _ hB' h'.1 h'.2⟩) (wpOp_of_list ho h)
  | .f i ri j rj, n, listed, a, w, hB, hS, h => by
    simp only [PT.ok, Bool.and_eq_true, decide_eq_true_eq] at hB
    obtain ⟨⟨⟨hn, hr⟩, hi⟩, hj⟩ := hB
    obtain ⟨n, rfl⟩ : ∃ m, n = m + 1 := ⟨n - 1, by omega⟩
    obtain ⟨⟨oi, hoi, h1⟩, oj, hoj, h2⟩ := h
    refine wpAnyH_all hr (by simp) fun k hk => ?_
    have hk' : k = i ∨ k = j := by simpa using hk
    rcases hk' with rfl | rfl
    · exact wpOp_mono (fun a' w' h' => ⟨h'.1, wpAnyH_of_tree hsel hQ ri _ _ _ _ hi h'.1 h'.2⟩) (wpOp_of_list hoi h1)
    · exact wpOp_mono (fun a' w' h' => ⟨h'.1, wpAnyH_of_tree hsel hQ rj _ _ _ _ hj h'.1 h'.2⟩) (wpOp_of_list hoj h2)
  | .g i ri j rj k rk, n, listed, a, w, hB, hS, h => by
    simp only [PT.ok, Bool.and_eq_true, decide_eq_true_eq] at hB
    obtain ⟨⟨⟨⟨hn, hr⟩, hi⟩, hj⟩, hk⟩ := hB
    obtain ⟨n, rfl⟩ : ∃ m, n = m + 1 := ⟨n - 1, by omega⟩
    obtain ⟨⟨oi, hoi, h1⟩, ⟨oj, hoj, h2⟩, ok, hok, h3⟩ := h
    refine wpAnyH_all hr (by simp) fun x hx => ?_
    have hx' : x = i ∨ x = j ∨ x = k := by simpa using hx
    rcases hx' with rfl | rfl | rfl
    · exact wpOp_mono (fun a' w' h' => ⟨h'.1, wpAnyH_of_tree hsel hQ ri _ _ _ _ hi h'.1 h'.2⟩) (wpOp_of_list hoi h1)
    · exact wpOp_mono (fun a' w' h' => ⟨h'.1, wpAnyH_of_tree hsel hQ rj _ _ _ _ hj h'.1 h'.2⟩) (wpOp_of_list hoj h2)
    · exact wpOp_mono (fun a' w' h' => ⟨h'.1, wpAnyH_of_tree hsel hQ rk _ _ _ _ hk h'.1 h'.2⟩) (wpOp_of_list hok h3)

theorem wp_region_tree {P : Program} {id : Nat} {l : List Oper} {Q : Exit → Act → World → Prop} {a : Act} {w : World} (S : World → Prop) (p : PT)
    (hm : P.follows .mixedOrders = true) (hsel : Region.noSelect l.toArray = true)
    (hB : p.ok l.toArray l.toArray.size (Array.replicate l.toArray.size false) = true) (hS : S w.drew)
    (h : wpT P l.toArray S (NoPanic Q) p a w.drew) : (Code.region id l.toArray true).wp P Q a w := by
  refine wp_region_noPanic ?_
  refine wp_region_held (S := S) hm ?_
  exact wpAnyH_of_tree hsel (fun _ _ _ _ _ h => h) p _ _ _ _ hB hS h

section
variable {P : Program} {ops : Array Oper} {S : World → Prop} {Q : Exit → Act → World → Prop} {o oi oj ok : Oper} {a : Act} {w : World} {k i j : Nat} {r ri rj rk : PT}
theorem wpT_takeK (ho : ops[k]? = some o) (v : Value) (hw : Region.wanted o (yielded ops a.tmps) = true) (h : ∀ w', S w' → (execOp a.eval o).run P w' = .ok (.value v) w') (h2 : ∀ K : Act → Prop, (∀ a', wpT P ops S Q r a' w → K a') → K (a.put o.dst v)) :
    wpT P ops S Q (.t k r) a w := ⟨o, ho, v, .inl ⟨hw, h⟩, h2 _ fun _ h => h⟩
theorem wpT_skipT (ho : ops[k]? = some o) (hw : Region.wanted o (yielded ops a.tmps) = false) (h2 : ∀ K : Act → Prop, (∀ a', wpT P ops S Q r a' w → K a') → K (a.put o.dst undef)) :
    wpT P ops S Q (.t k r) a w := ⟨o, ho, undef, .inr ⟨hw, rfl⟩, h2 _ fun _ h => h⟩
theorem wpT_alone (ho : ops[k]? = some o) (h : wpList P ops (QS S Q (wpT P ops S Q r)) [o] a w) : wpT P ops S Q (.a k r) a w := ⟨o, ho, h⟩
theorem wpT_fork (hi : ops[i]? = some oi) (hj : ops[j]? = some oj) (h1 : wpList P ops (QS S Q (wpT P ops S Q ri)) [oi] a w) (h2 : wpList P ops (QS S Q (wpT P ops S Q rj)) [oj] a w) : wpT P ops S Q (.f i ri j rj) a w :=
  ⟨⟨oi, hi, h1⟩, oj, hj, h2⟩
theorem wpT_fork3 (hi : ops[i]? = some oi) (hj : ops[j]? = some oj) (hk : ops[k]? = some ok) (h1 : wpList P ops (QS S Q (wpT P ops S Q ri)) [oi] a w) (h2 : wpList P ops (QS S Q (wpT P ops S Q rj)) [oj] a w)
    (h3 : wpList P ops (QS S Q (wpT P ops S Q rk)) [ok] a w) : wpT P ops S Q (.g i ri j rj k rk) a w := ⟨⟨oi, hi, h1⟩, ⟨oj, hj, h2⟩, ok, hk, h3⟩
theorem wpT_end (h : Q .normal a w) : wpT P ops S (NoPanic Q) .nil a w := h
theorem QS_abs {R : Act → World → Prop} (h : ∀ w', w' = w → S w' ∧ R a w') : QS S Q R .normal a w := h w rfl
end

end Go.Proofs.Ytobpohjhhelljaa
