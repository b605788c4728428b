/- Layer 3 (object): keys are in one order. -/
import Derived.Test.YtmhnccbjnlmjpaaO15
import Derived.Test.YtmhnccbjnlmjpaaTree
namespace Go.Proofs.Ytmhnccbjnlmjpaa
open Go.RowKit
set_option linter.unusedVariables false
set_option linter.unusedSimpArgs false

abbrev bl := Op.bytesLess
theorem bl_cmp : ∀ (a b : List UInt8), decide (Lib.compareBytes a b < 0) = bl a b
  | [], [] => by simp [Lib.compareBytes, bl, Op.bytesLess]
  | [], _ :: _ => by simp [Lib.compareBytes, bl, Op.bytesLess]
  | _ :: _, [] => by simp [Lib.compareBytes, bl, Op.bytesLess]
  | x :: a, y :: b => by
    have ih := bl_cmp a b
    unfold bl at ih ⊢
    simp only [Lib.compareBytes, Op.bytesLess]
    by_cases h1 : x < y
    · simp [h1]
    · by_cases h2 : y < x
      · have hne : (x == y) = false := by
          rw [beq_eq_false_iff_ne]; rintro rfl; exact h1 h2
        simp [h1, h2, hne]
      · have he : x = y := UInt8.le_antisymm (UInt8.not_lt.1 h2) (UInt8.not_lt.1 h1)
        subst he
        simp [h1, ih]
theorem bl_irrefl : ∀ (a : List UInt8), bl a a = false
  | [] => rfl
  | x :: a => by have := bl_irrefl a; simp [bl, Op.bytesLess] at *; exact this
theorem bl_trans : ∀ (a b c : List UInt8), bl a b = true → bl b c = true → bl a c = true
  | [], [], c, h, _ => by simp [bl, Op.bytesLess] at h
  | _ :: _, [], c, h, _ => by simp [bl, Op.bytesLess] at h
  | _, _ :: _, [], _, h => by simp [bl, Op.bytesLess] at h
  | [], _ :: _, _ :: _, _, _ => by simp [bl, Op.bytesLess]
  | x :: a, y :: b, z :: c, h1, h2 => by
    have ih := bl_trans a b c
    simp only [bl, Op.bytesLess, Bool.or_eq_true, Bool.and_eq_true, decide_eq_true_eq, beq_iff_eq] at *
    rcases h1 with h1 | ⟨rfl, h1⟩
    · rcases h2 with h2 | ⟨rfl, h2⟩
      · exact .inl (UInt8.lt_trans h1 h2)
      · exact .inl h1
    · rcases h2 with h2 | ⟨rfl, h2⟩
      · exact .inl h2
      · exact .inr ⟨rfl, ih h1 h2⟩
theorem bl_total : ∀ (a b : List UInt8), bl a b = false → bl b a = false → a = b
  | [], [], _, _ => rfl
  | [], _ :: _, h, _ => by simp [bl, Op.bytesLess] at h
  | _ :: _, [], _, h => by simp [bl, Op.bytesLess] at h
  | x :: a, y :: b, h1, h2 => by
    have ih := bl_total a b
    simp only [bl, Op.bytesLess, Bool.or_eq_false_iff, Bool.and_eq_false_iff, decide_eq_false_iff_not, beq_eq_false_iff_ne] at *
    have he : x = y := UInt8.le_antisymm (UInt8.not_lt.1 h2.1) (UInt8.not_lt.1 h1.1)
    subst he
    rw [ih (h1.2.resolve_left (fun h => h rfl)) (h2.2.resolve_left (fun h => h rfl))]

structure K where
  k : Int
  n : ByteArray
def ltK (a b : K) : Bool := if a.k = b.k then bl a.n.toList b.n.toList else decide (a.k < b.k)
theorem ltK_eq (a b : K) : lessK a.k a.n b.k b.n = ltK a b := by
  unfold lessK ltK; rw [bl_cmp]; simp [ByteArray.toList_eq]
theorem ltK_asymm {a b : K} (h : ltK a b = true) : ltK b a = false := by
  unfold ltK at *
  by_cases e : a.k = b.k
  · rw [if_pos e] at h; rw [if_pos e.symm]
    cases hb : bl b.n.toList a.n.toList with
    | false => rfl
    | true => have := bl_trans _ _ _ h hb; rw [bl_irrefl] at this; cases this
  · rw [if_neg e] at h; rw [if_neg (fun x => e x.symm)]
    simp at h ⊢; omega
theorem ltK_trans {a b c : K} (h : ltK a b = true) (h2 : ltK b c = true) : ltK a c = true := by
  unfold ltK at *
  by_cases e : a.k = b.k
  · rw [if_pos e] at h
    by_cases e2 : b.k = c.k
    · rw [if_pos e2] at h2; rw [if_pos (e.trans e2)]; exact bl_trans _ _ _ h h2
    · rw [if_neg e2] at h2; rw [if_neg (fun x => e2 (e.symm.trans x))]; simp at *; omega
  · rw [if_neg e] at h
    by_cases e2 : b.k = c.k
    · rw [if_neg (fun x => e (x.trans e2.symm))]; simp at *; omega
    · rw [if_neg e2] at h2; rw [if_neg (by simp at *; omega)]; simp at *; omega
theorem ltK_total {a b : K} (h : ltK a b = false) (h2 : ltK b a = false) : a.k = b.k ∧ a.n.toList = b.n.toList := by
  unfold ltK at *
  by_cases e : a.k = b.k
  · rw [if_pos e] at h; rw [if_pos e.symm] at h2; exact ⟨e, bl_total _ _ h h2⟩
  · rw [if_neg e] at h; rw [if_neg (fun x => e x.symm)] at h2; simp at *; omega
theorem ltK_ne {a b : K} (h : ltK a b = true) : ¬ a.k = b.k ∨ (a.k = b.k ∧ ¬ a.n.toList = b.n.toList) := by
  by_cases e : a.k = b.k
  · refine .inr ⟨e, fun e2 => ?_⟩
    unfold ltK at h; rw [if_pos e, e2, bl_irrefl] at h; cases h
  · exact .inl e

theorem lessA (a b : K) (w : World) : Calls Try.prog 21 #[.agg #[.int .u8 a.k, .string a.n], .agg #[.int .u8 b.k, .string b.n]] w fun e w' => e = .returned (.bool (ltK a b)) ∧ Below w.heap.size w w' := by
  rw [← ltK_eq]; exact less_any a.k a.n b.k b.n w

set_option maxRecDepth 100000 in
set_option maxHeartbeats 4000000 in
theorem lessR (a b : K) (w : World) : Calls Try.prog 22 #[.agg #[.int .u8 a.k, .string a.n], .agg #[.int .u8 b.k, .string b.n]] w fun e w' => e = .returned (.bool (ltK a b)) ∧ Below w.heap.size w w' := by
  by_cases e : a.k = b.k
  · have e1 : ¬ a.k < b.k := by omega
    have hr : ltK a b = Op.bytesLess a.n.toList b.n.toList := by unfold ltK; rw [if_pos e]
    rw [hr]
    have e2 : (a.k == b.k) = true := by simp [e]
    have HE := Lib.hid e
    clear e hr
    go_enter Try.func22, Try.ntmps22
    go_wp2
    all_goals go_ret
    all_goals exact ⟨ret_bool (by simp_all), ((Below.refl _ _).alloc (Nat.le_refl _) _).alloc (by simp) _⟩
  · have hr : ltK a b = decide (a.k < b.k) := by unfold ltK; rw [if_neg e]
    rw [hr]
    have e2 : (a.k == b.k) = false := by simpa using e
    clear hr
    by_cases e1 : a.k < b.k
    · go_enter Try.func22, Try.ntmps22
      go_wp2
      all_goals go_ret
      all_goals exact ⟨ret_bool (by simp_all), ((Below.refl _ _).alloc (Nat.le_refl _) _).alloc (by simp) _⟩
    · go_enter Try.func22, Try.ntmps22
      go_wp2
      all_goals go_ret
      all_goals exact ⟨ret_bool (by simp_all), ((Below.refl _ _).alloc (Nat.le_refl _) _).alloc (by simp) _⟩

theorem alloc_post' {wn X : World} {o : Go.Obj} (h : wn = X.alloc o) : wn.heap[X.heap.size]? = some o := by rw [h]; exact heap_alloc_eq
theorem alloc_keep' {wn X : World} {o o' : Go.Obj} {b : Nat} (h : wn = X.alloc o) (hb : X.heap[b]? = some o') : wn.heap[b]? = some o' := by rw [h]; exact (heap_alloc_lt (Array.getElem?_eq_some_iff.1 hb).1).trans hb
theorem alloc_ne' {X : World} {o' : Go.Obj} {b : Nat} (hb : X.heap[b]? = some o') : b ≠ X.heap.size := Nat.ne_of_lt (Array.getElem?_eq_some_iff.1 hb).1
theorem heap_setCell_ne' {w : World} {a : Addr} {v : Value} {b : Nat} (h : b ≠ a.block) : (w.setCell a v).heap[b]? = w.heap[b]? := Below.heap_setCell w a v b h
theorem heap_setCell_same' {w : World} {b o : Nat} {v : Value} {cs : Array Value} {t : TypeId} {fr : Nat × Nat} (h : w.heap[b]? = some (.cells cs t fr)) :
    (w.setCell ⟨b, o, none⟩ v).heap[b]? = some (.cells (cs.setIfInBounds o v) t fr) := by
  simp [World.setCell, Array.getElem?_modify, h]
theorem set_keep' {wn X : World} {P c : Nat} {u v : Value} {o' : Go.Obj} (h : wn = (X.setCell ⟨P, 0, none⟩ u).setCell ⟨P, 1, none⟩ v) (hne : c ≠ P) (hc : X.heap[c]? = some o') : wn.heap[c]? = some o' := by
  rw [h]; exact (heap_setCell_ne' hne).trans ((heap_setCell_ne' hne).trans hc)
theorem set_post' {wn X : World} {P : Nat} {u v u0 v0 : Value} {t : TypeId} (h : wn = (X.setCell ⟨P, 0, none⟩ u).setCell ⟨P, 1, none⟩ v) (hc : X.heap[P]? = some (.cells #[u0, v0] t (0, 0))) : wn.heap[P]? = some (.cells #[u, v] t (0, 0)) := by
  rw [h, heap_setCell_same' (heap_setCell_same' hc)]; rfl
theorem cell_at {w : World} {b : Nat} {cs : Array Value} {t : TypeId} {fr : Nat × Nat} (h : w.heap[b]? = some (.cells cs t fr)) (o : Nat) (v : Value) (hv : cs[o]? = some v) : w.cell? ⟨b, o, none⟩ = some v := by simp [World.cell?, h, hv]
theorem frozen_at {w : World} {b : Nat} {cs : Array Value} {t : TypeId} (h : w.heap[b]? = some (.cells cs t (0, 0))) (o : Nat) : w.frozen? ⟨b, o, none⟩ = false := by simp [World.frozen?, h]

theorem keep6 {w : World} {b : Nat} {v0 v1 v2 v3 v4 v5 : Value} {t : TypeId} {fr : Nat × Nat} (h : w.heap[b]? = some (.cells #[v0, v1, v2, v3, v4, v5] t fr)) :
    w.cell? ⟨b, 0, none⟩ = some v0 ∧ w.cell? ⟨b, 1, none⟩ = some v1 ∧ w.cell? ⟨b, 2, none⟩ = some v2 ∧ w.cell? ⟨b, 3, none⟩ = some v3 ∧ w.cell? ⟨b, 4, none⟩ = some v4 ∧ w.cell? ⟨b, 5, none⟩ = some v5 :=
  ⟨cell_at h 0 _ rfl, cell_at h 1 _ rfl, cell_at h 2 _ rfl, cell_at h 3 _ rfl, cell_at h 4 _ rfl, cell_at h 5 _ rfl⟩
namespace objectLess
open Go.ChangeShapes Go.WideShapes Go.ChangeAt

/-- three boxes -/
structure B4 (w W : World) (P Q T : Nat) (a b c : K) : Prop where
  p : W.heap[P]? = some (.cells #[.int .u8 a.k, .string a.n] 37)
  q : W.heap[Q]? = some (.cells #[.int .u8 b.k, .string b.n] 37)
  t : W.heap[T]? = some (.cells #[.int .u8 c.k, .string c.n] 37)
  b : Below w.heap.size w W
theorem B4.keep {w W : World} {P Q T : Nat} {a b c : K} (h : B4 w W P Q T a b c) :
    W.cell? ⟨P, 0, none⟩ = some (.int .u8 a.k) ∧ W.cell? ⟨P, 1, none⟩ = some (.string a.n) ∧ W.cell? ⟨Q, 0, none⟩ = some (.int .u8 b.k) ∧ W.cell? ⟨Q, 1, none⟩ = some (.string b.n) :=
  ⟨cell_at h.p 0 _ rfl, cell_at h.p 1 _ rfl, cell_at h.q 0 _ rfl, cell_at h.q 1 _ rfl⟩
theorem B4.next {w W W' : World} {P Q T : Nat} {a b c : K} (h : B4 w W P Q T a b c) (hb : Below W.heap.size W W') : B4 w W' P Q T a b c :=
  ⟨(hb.block _ (Array.getElem?_eq_some_iff.1 h.p).1).trans h.p, (hb.block _ (Array.getElem?_eq_some_iff.1 h.q).1).trans h.q, (hb.block _ (Array.getElem?_eq_some_iff.1 h.t).1).trans h.t, h.b.trans (hb.mono h.b.size)⟩
theorem B4.drew {w W : World} {P Q T : Nat} {a b c : K} (h : B4 w W P Q T a b c) : B4 w W.drew P Q T a b c := ⟨h.p, h.q, h.t, h.b.drew⟩
end objectLess

end Go.Proofs.Ytmhnccbjnlmjpaa
