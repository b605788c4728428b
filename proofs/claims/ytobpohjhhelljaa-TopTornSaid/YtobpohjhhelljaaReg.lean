/- A region that draws its order, walked in one order, under a condition on the world. -/
import Derived.Test.YtobpohjhhelljaaRows
import Derived.WalkKit
import Derived.OrdersHeld
import Derived.Deep.RegionHeld3
import Derived.StillTailTactics
namespace Go.Proofs.Ytobpohjhhelljaa
open Go.RowKit
set_option linter.unusedVariables false
set_option linter.unusedSimpArgs false


/-- is the plan one that the region's edges allow? true: taken ahead of all that may come up; false: alone -/
def planB (md : Region.Mode) (ops : Array Oper) : List (Bool × Nat) → Array Bool → Bool
  | [], listed => (Region.ready md ops listed).isEmpty
  | (true, k) :: m, listed => (Region.ready md ops listed).contains k && Region.free md ops listed k && planB md ops m (listed.setIfInBounds k true)
  | (false, k) :: m, listed => decide (Region.ready md ops listed = [k]) && planB md ops m (listed.setIfInBounds k true)

def QS (S : World → Prop) (Q : Exit → Act → World → Prop) (R : Act → World → Prop) : Exit → Act → World → Prop
  | .normal, a, w => S w ∧ R a w
  | e, a, w => Q e a w

def wpSeq (P : Program) (ops : Array Oper) (S : World → Prop) (Q : Exit → Act → World → Prop) : List (Bool × Oper) → Act → World → Prop
  | [], a, w => Q .normal a w
  | (true, o) :: l, a, w => ∃ v, YieldsIf P ops S o v a ∧ wpSeq P ops S Q l (a.put o.dst v) w
  | (false, o) :: l, a, w => wpList P ops (QS S Q (wpSeq P ops S Q l)) [o] a w

theorem wpOp_of_list {P : Program} {ops : Array Oper} {S : World → Prop} {Q : Exit → Act → World → Prop} {R : Act → World → Prop} {i : Nat} {o : Oper} {a : Act} {w : World} (hi : ops[i]? = some o)
    (h : wpList P ops (QS S Q R) [o] a w) : wpOp P ops Q i (fun a' w' => S w' ∧ R a' w') a w := by
  unfold wpOp
  simp only [hi]
  unfold wpList at h
  split
  · rename_i hw
    rw [if_pos hw] at h
    rcases h with h | ⟨h1, a0, w0, h2⟩
    · left
      unfold Oper.wp at *
      generalize (execOp a.eval o).run P w = r at *
      cases r with
      | ok n w' =>
        cases n <;> simp only [Oper.upon] at h ⊢ <;>
          first
            | exact h
            | (refine Calls.mono h (fun e w'' he => ?_); cases e <;> first | exact he | (obtain ⟨a0, w0, h2⟩ := he; exact ⟨a0, w0, h2⟩))
            | exact Rows.mono h (fun _ _ he => he)
      | halt x w' => cases x <;> simp only [Oper.upon] at h ⊢ <;> exact h
    · right; exact ⟨h1, a0, w0, h2⟩
  · rename_i hw
    rw [if_neg hw] at h
    exact h

theorem wpAnyH_of_seq {P : Program} {ops : Array Oper} {S : World → Prop} {Q : Exit → Act → World → Prop} (hsel : Region.noSelect ops = true)
    (hQ : ∀ c a d v w, Q (.panic c) (Act.put a d v) w → Q (.panic c) a w) :
    ∀ (plan : List (Bool × Nat)) (listed : Array Bool) (a : Act) (w : World), planB .any ops plan listed = true → S w →
      wpSeq P ops S Q (plan.filterMap fun p => (ops[p.2]?).map fun o => (p.1, o)) a w → wpAnyH P .any ops Q S plan.length listed a w
  | [], listed, a, w, hB, _, h => by
    simp only [planB, List.isEmpty_iff] at hB
    exact ⟨hB, h⟩
  | (true, k) :: m, listed, a, w, hB, hS, h => by
    simp only [planB, Bool.and_eq_true] at hB
    obtain ⟨⟨hr, hf⟩, hB'⟩ := hB
    have hr' : k ∈ Region.ready .any ops listed := by simpa using hr
    obtain ⟨_, o, ho, _⟩ := mem_ready.1 hr'
    simp only [List.filterMap_cons, ho, Option.map_some] at h
    obtain ⟨v, hy, h2⟩ := h
    exact wpAnyH_take ho hsel hf hr (fun c a w => hQ c a _ _ w) hy hS (wpAnyH_of_seq hsel hQ m _ _ _ hB' hS h2)
  | (false, k) :: m, listed, a, w, hB, hS, h => by
    simp only [planB, Bool.and_eq_true, decide_eq_true_eq] at hB
    obtain ⟨hr, hB'⟩ := hB
    have hr' : k ∈ Region.ready .any ops listed := by rw [hr]; simp
    obtain ⟨_, o, ho, _⟩ := mem_ready.1 hr'
    simp only [List.filterMap_cons, ho, Option.map_some] at h
    refine wpAnyH_all hr (by simp) fun i hi => ?_
    have : i = k := by simpa using hi
    subst this
    exact wpOp_mono (fun a' w' h' => ⟨h'.1, wpAnyH_of_seq hsel hQ m _ _ _ hB' h'.1 h'.2⟩) (wpOp_of_list ho h)

theorem wp_region_S {P : Program} {id : Nat} {l : List Oper} {Q : Exit → Act → World → Prop} {a : Act} {w : World} (S : World → Prop) (plan : List (Bool × Nat))
    (hm : P.follows .mixedOrders = true) (hsel : Region.noSelect l.toArray = true) (hlen : plan.length = l.length)
    (hB : planB .any l.toArray plan (Array.replicate l.toArray.size false) = true)
    (hQ : ∀ c a d v w, Q (.panic c) (Act.put a d v) w → Q (.panic c) a w) (hS : S w.drew)
    (h : wpSeq P l.toArray S Q (plan.filterMap fun p => (l[p.2]?).map fun o => (p.1, o)) a w.drew) : (Code.region id l.toArray true).wp P Q a w := by
  refine wp_region_held (S := S) hm ?_
  have h2 : plan.length = l.toArray.size := by simpa using hlen
  rw [← h2]
  rw [← h2] at hB
  exact wpAnyH_of_seq hsel hQ plan _ _ _ hB hS (by simpa using h)

/-- the same, of a region that does not panic -/
theorem wp_region_N {P : Program} {id : Nat} {l : List Oper} {Q : Exit → Act → World → Prop} {a : Act} {w : World} (S : World → Prop) (plan : List (Bool × Nat))
    (hm : P.follows .mixedOrders = true) (hsel : Region.noSelect l.toArray = true) (hlen : plan.length = l.length)
    (hB : planB .any l.toArray plan (Array.replicate l.toArray.size false) = true) (hS : S w.drew)
    (h : wpSeq P l.toArray S (NoPanic Q) (plan.filterMap fun p => (l[p.2]?).map fun o => (p.1, o)) a w.drew) : (Code.region id l.toArray true).wp P Q a w :=
  wp_region_noPanic (wp_region_S S plan hm hsel hlen hB (fun _ _ _ _ _ h => h) hS h)

section
variable {P : Program} {ops : Array Oper} {S : World → Prop} {Q : Exit → Act → World → Prop} {l : List (Bool × Oper)} {o : Oper} {a : Act} {w : World}
theorem wpSeq_nil (h : Q .normal a w) : wpSeq P ops S Q [] a w := h
/-- an operation that yields in each world of S -/
theorem wpSeq_take (v : Value) (hw : Region.wanted o (yielded ops a.tmps) = true) (h : ∀ w', S w' → (execOp a.eval o).run P w' = .ok (.value v) w') (h2 : wpSeq P ops S Q l (a.put o.dst v) w) :
    wpSeq P ops S Q ((true, o) :: l) a w := ⟨v, .inl ⟨hw, h⟩, h2⟩
/-- one whose guard says no -/
theorem wpSeq_skip (b : Bool) (hw : Region.wanted o (yielded ops a.tmps) = false) (h2 : b = true → wpSeq P ops S Q l (a.put o.dst undef) w) (h3 : b = false → S w ∧ wpSeq P ops S Q l (a.put o.dst undef) w) :
    wpSeq P ops S Q ((b, o) :: l) a w := by
  cases b with
  | true => exact ⟨undef, .inr ⟨hw, rfl⟩, h2 rfl⟩
  | false => simp only [wpSeq, wpList, hw]; exact h3 rfl
theorem wpSeq_takeK (v : Value) (hw : Region.wanted o (yielded ops a.tmps) = true) (h : ∀ w', S w' → (execOp a.eval o).run P w' = .ok (.value v) w') (h2 : ∀ K : Act → Prop, (∀ a', wpSeq P ops S Q l a' w → K a') → K (a.put o.dst v)) :
    wpSeq P ops S Q ((true, o) :: l) a w := wpSeq_take v hw h (h2 _ fun _ h => h)
theorem wpSeq_skipT (hw : Region.wanted o (yielded ops a.tmps) = false) (h2 : ∀ K : Act → Prop, (∀ a', wpSeq P ops S Q l a' w → K a') → K (a.put o.dst undef)) :
    wpSeq P ops S Q ((true, o) :: l) a w := wpSeq_skip true hw (fun _ => h2 _ fun _ h => h) (fun h => by cases h)
theorem wpSeq_skipA (hw : Region.wanted o (yielded ops a.tmps) = false) (hS : S w) (h2 : ∀ K : Act → Prop, (∀ a', wpSeq P ops S Q l a' w → K a') → K (a.put o.dst undef)) :
    wpSeq P ops S Q ((false, o) :: l) a w := wpSeq_skip false hw (fun h => by cases h) (fun _ => ⟨hS, h2 _ fun _ h => h⟩)
theorem wpSeq_alone (h : wpList P ops (QS S Q (wpSeq P ops S Q l)) [o] a w) : wpSeq P ops S Q ((false, o) :: l) a w := h
theorem wpSeq_end (h : Q .normal a w) : wpSeq P ops S (NoPanic Q) [] a w := h
theorem QS_normal {R : Act → World → Prop} (h1 : S w) (h2 : S w → R a w) : QS S Q R .normal a w := ⟨h1, h2 h1⟩
end

/-- reads in whatever order, and behind them the rest in one order -/
theorem wp_region_T {P : Program} {id : Nat} {Q : Exit → Act → World → Prop} {a : Act} {w : World} {l : List Oper} (n : Nat) (hm : P.follows .mixedOrders = true) (hB : Region.lexTailB .any l.toArray n = true)
    (h : wpStill P l.toArray w.drew (fun a' => wpList P l.toArray Q (l.drop n) a' w.drew) (l.take n) a) : (Code.region id l.toArray true).wp P Q a w :=
  wp_region_still_tail n hm hB h

end Go.Proofs.Ytobpohjhhelljaa
