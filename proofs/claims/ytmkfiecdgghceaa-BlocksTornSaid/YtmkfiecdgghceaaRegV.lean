/- A region that draws its order, walked in one order, under a condition that grows behind operations that stand alone. -/
import Derived.Test.YtmkfiecdgghceaaReg
namespace Go.Proofs.Ytmkfiecdgghceaa
open Go.RowKit
set_option linter.unusedVariables false
set_option linter.unusedSimpArgs false

def QV (S : World → Prop) (Q : Exit → Act → World → Prop) (R : (World → Prop) → Act → World → Prop) : Exit → Act → World → Prop
  | .normal, a, w => ∃ S' : World → Prop, (∀ w, S' w → S w) ∧ S' w ∧ R S' a w
  | e, a, w => Q e a w
def wpSeqV (P : Program) (ops : Array Oper) (Q : Exit → Act → World → Prop) : List (Bool × Oper) → (World → Prop) → Act → World → Prop
  | [], _, a, w => Q .normal a w
  | (true, o) :: l, S, a, w => ∃ v, YieldsIf P ops S o v a ∧ wpSeqV P ops Q l S (a.put o.dst v) w
  | (false, o) :: l, S, a, w => wpList P ops (QV S Q (wpSeqV P ops Q l)) [o] a w

theorem wpOp_of_listV {P : Program} {ops : Array Oper} {S : World → Prop} {Q : Exit → Act → World → Prop} {R : (World → Prop) → Act → World → Prop} {i : Nat} {o : Oper} {a : Act} {w : World} (hi : ops[i]? = some o)
    (h : wpList P ops (QV S Q R) [o] a w) : wpOp P ops Q i (fun a' w' => ∃ S' : World → Prop, (∀ w, S' w → S w) ∧ S' w' ∧ R S' a' w') a w := by
  unfold wpOp
  simp only [hi]
  unfold wpList at h
  split
  · rename_i hw
    rw [if_pos hw] at h
    rcases h with h | ⟨h1, a0, w0, h2⟩
    · left
      unfold Oper.wp at *
      generalize (execOp a.eval o).run P w = r at *
      cases r with
      | ok n w' =>
        cases n <;> simp only [Oper.upon] at h ⊢ <;>
          first
            | exact h
            | (refine Calls.mono h (fun e w'' he => ?_); cases e <;> first | exact he | (obtain ⟨a0, w0, h2⟩ := he; exact ⟨a0, w0, h2⟩))
            | exact Rows.mono h (fun _ _ he => he)
      | halt x w' => cases x <;> simp only [Oper.upon] at h ⊢ <;> exact h
    · right; exact ⟨h1, a0, w0, h2⟩
  · rename_i hw
    rw [if_neg hw] at h
    exact h
theorem wpAnyH_weaker {P : Program} {md : Region.Mode} {ops : Array Oper} {Q : Exit → Act → World → Prop} {S S' : World → Prop} (hS : ∀ w, S' w → S w) : ∀ (fuel : Nat) (listed : Array Bool) (a : Act) (w : World), wpAnyH P md ops Q S' fuel listed a w → wpAnyH P md ops Q S fuel listed a w
  | 0, _, _, _, h => h
  | fuel + 1, listed, a, w, h => ⟨h.1, fun i hi => wpOp_mono (fun a' w' h' => ⟨hS _ h'.1, wpAnyH_weaker hS fuel _ a' w' h'.2⟩) (h.2 i hi)⟩
theorem wpAnyH_of_seqV {P : Program} {ops : Array Oper} {Q : Exit → Act → World → Prop} (hsel : Region.noSelect ops = true)
    (hQ : ∀ c a d v w, Q (.panic c) (Act.put a d v) w → Q (.panic c) a w) :
    ∀ (plan : List (Bool × Nat)) (S : World → Prop) (listed : Array Bool) (a : Act) (w : World), planB .any ops plan listed = true → S w →
      wpSeqV P ops Q (plan.filterMap fun p => (ops[p.2]?).map fun o => (p.1, o)) S a w → wpAnyH P .any ops Q S plan.length listed a w
  | [], S, listed, a, w, hB, _, h => by
    simp only [planB, List.isEmpty_iff] at hB
    exact ⟨hB, h⟩
  | (true, k) :: m, S, listed, a, w, hB, hS, h => by
    simp only [planB, Bool.and_eq_true] at hB
    obtain ⟨⟨hr, hf⟩, hB'⟩ := hB
    have hr' : k ∈ Region.ready .any ops listed := by simpa using hr
    obtain ⟨_, o, ho, _⟩ := mem_ready.1 hr'
    simp only [List.filterMap_cons, ho, Option.map_some] at h
    obtain ⟨v, hy, h2⟩ := h
    exact wpAnyH_take ho hsel hf hr (fun c a w => hQ c a _ _ w) hy hS (wpAnyH_of_seqV hsel hQ m S _ _ _ hB' hS h2)
  | (false, k) :: m, S, listed, a, w, hB, hS, h => by
    simp only [planB, Bool.and_eq_true, decide_eq_true_eq] at hB
    obtain ⟨hr, hB'⟩ := hB
    have hr' : k ∈ Region.ready .any ops listed := by rw [hr]; simp
    obtain ⟨_, o, ho, _⟩ := mem_ready.1 hr'
    simp only [List.filterMap_cons, ho, Option.map_some] at h
    refine wpAnyH_all hr (by simp) fun i hi => ?_
    have : i = k := by simpa using hi
    subst this
    exact wpOp_mono (fun a' w' ⟨S', h1, h2, h3⟩ => ⟨h1 _ h2, wpAnyH_weaker h1 _ _ _ _ (wpAnyH_of_seqV hsel hQ m S' _ _ _ hB' h2 h3)⟩) (wpOp_of_listV ho h)
theorem wp_region_V {P : Program} {id : Nat} {l : List Oper} {Q : Exit → Act → World → Prop} {a : Act} {w : World} (S : World → Prop) (plan : List (Bool × Nat))
    (hm : P.follows .mixedOrders = true) (hsel : Region.noSelect l.toArray = true) (hlen : plan.length = l.length)
    (hB : planB .any l.toArray plan (Array.replicate l.toArray.size false) = true) (hS : S w.drew)
    (h : wpSeqV P l.toArray (NoPanic Q) (plan.filterMap fun p => (l[p.2]?).map fun o => (p.1, o)) S a w.drew) : (Code.region id l.toArray true).wp P Q a w := by
  refine wp_region_noPanic (wp_region_held (S := S) hm ?_)
  have h2 : plan.length = l.toArray.size := by simpa using hlen
  rw [← h2]
  rw [← h2] at hB
  exact wpAnyH_of_seqV hsel (fun _ _ _ _ _ h => h) plan S _ _ _ hB hS (by simpa using h)
section
variable {P : Program} {ops : Array Oper} {S : World → Prop} {Q : Exit → Act → World → Prop} {l : List (Bool × Oper)} {o : Oper} {a : Act} {w : World}
theorem wpSeqV_end (h : Q .normal a w) : wpSeqV P ops (NoPanic Q) [] S a w := h
theorem wpSeqV_takeK (v : Value) (hw : Region.wanted o (yielded ops a.tmps) = true) (h : ∀ w', S w' → (execOp a.eval o).run P w' = .ok (.value v) w') (h2 : ∀ K : Act → Prop, (∀ a', wpSeqV P ops Q l S a' w → K a') → K (a.put o.dst v)) :
    wpSeqV P ops Q ((true, o) :: l) S a w := ⟨v, .inl ⟨hw, h⟩, h2 _ fun _ h => h⟩
theorem wpSeqV_skipT (hw : Region.wanted o (yielded ops a.tmps) = false) (h2 : ∀ K : Act → Prop, (∀ a', wpSeqV P ops Q l S a' w → K a') → K (a.put o.dst undef)) :
    wpSeqV P ops Q ((true, o) :: l) S a w := ⟨undef, .inr ⟨hw, rfl⟩, h2 _ fun _ h => h⟩
theorem wpSeqV_alone (h : wpList P ops (QV S Q (wpSeqV P ops Q l)) [o] a w) : wpSeqV P ops Q ((false, o) :: l) S a w := h
theorem wpSeqV_skipA (hw : Region.wanted o (yielded ops a.tmps) = false) (hS : S w) (h2 : ∀ K : Act → Prop, (∀ a', wpSeqV P ops Q l S a' w → K a') → K (a.put o.dst undef)) :
    wpSeqV P ops Q ((false, o) :: l) S a w := by
  simp only [wpSeqV, wpList, hw]
  exact ⟨S, fun _ h => h, hS, h2 _ fun _ h => h⟩
theorem QV_normal {R : (World → Prop) → Act → World → Prop} (S' : World → Prop) (h0 : ∀ w, S' w → S w) (h1 : S' w) (h2 : S' w → R S' a w) : QV S Q R .normal a w := ⟨S', h0, h1, h2 h1⟩
end

end Go.Proofs.Ytmkfiecdgghceaa
