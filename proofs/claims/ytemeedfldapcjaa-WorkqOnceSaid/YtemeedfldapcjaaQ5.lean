/- A part of the walks: contracts of functions. -/
import Derived.Test.YtemeedfldapcjaaQ4
import Derived.Maps.RangeRun
namespace Go.Proofs.Ytemeedfldapcjaa
open Go.RowKit
set_option linter.unusedVariables false
set_option linter.unusedSimpArgs false
/-! ### the one that is taken first -/
open Go.ChangeMaps (setBlock) in
theorem setBlock_same {w : World} {r : Nat} {o : Obj} (h : r < w.heap.size) : (setBlock w r o).heap[r]? = some o := by simp [setBlock, h]
open Go.ChangeMaps (setBlock) in
theorem setBlock_ne {w : World} {r c : Nat} {o : Obj} (h : c ≠ r) : (setBlock w r o).heap[c]? = w.heap[c]? := by
  simp only [setBlock]; rw [Array.getElem?_setIfInBounds_ne (fun e => h e.symm)]

/-- (since, due): a is taken ahead of b -/
def ahead (a b : Int × Int) : Prop := a.2 < b.2 ∨ (a.2 = b.2 ∧ a.1 < b.1)
instance (a b : Int × Int) : Decidable (ahead a b) := by unfold ahead; infer_instance

/-- the first one: the least time, and of these the one that came first -/
def bestL : List (GKey × (Int × Int)) → Option (GKey × (Int × Int))
  | [] => none
  | a :: l => match bestL l with
    | none => some a
    | some b => if b.2.2 < a.2.2 then some b else some a

def Since (l : List (GKey × (Int × Int))) : Prop := l.Pairwise fun a b => a.2.1 < b.2.1

theorem bestL_mem : ∀ {l : List (GKey × (Int × Int))} {p}, bestL l = some p → p ∈ l
  | a :: l, p, h => by
    simp only [bestL] at h
    cases hb : bestL l with
    | none => rw [hb] at h; simp at h; simp [h]
    | some b =>
      rw [hb] at h
      simp only at h
      split at h
      · simp at h; subst h; exact List.mem_cons_of_mem _ (bestL_mem hb)
      · simp at h; simp [h]
theorem bestL_none : ∀ {l : List (GKey × (Int × Int))}, bestL l = none → l = []
  | [], _ => rfl
  | a :: l, h => by
    simp only [bestL] at h
    cases hb : bestL l with
    | none => rw [hb] at h; simp at h
    | some b => rw [hb] at h; simp only at h; split at h <;> simp at h
/-- nothing is ahead of it -/
theorem bestL_ahead : ∀ {l : List (GKey × (Int × Int))} {p}, Since l → bestL l = some p → ∀ x ∈ l, x ≠ p → ahead p.2 x.2
  | a :: l, p, hs, h, x, hx, hne => by
    have hs' := List.pairwise_cons.1 hs
    simp only [bestL] at h
    cases hb : bestL l with
    | none =>
      rw [hb] at h; simp at h; subst h
      have := bestL_none hb; subst this
      simp at hx; exact absurd hx hne
    | some b =>
      rw [hb] at h
      simp only at h
      split at h
      · rename_i hlt
        simp at h; subst h
        rcases List.mem_cons.1 hx with rfl | hx
        · left; exact hlt
        · exact bestL_ahead hs'.2 hb x hx hne
      · rename_i hlt
        simp at h; subst h
        rcases List.mem_cons.1 hx with rfl | hx
        · exact absurd rfl hne
        · have h1 := hs'.1 x hx
          by_cases hxb : x = b
          · subst hxb
            unfold ahead; omega
          · have h2 := bestL_ahead hs'.2 hb x hx hxb
            have h3 := hs'.1 b (bestL_mem hb)
            unfold ahead at *; omega
theorem bestL_uniq {l : List (GKey × (Int × Int))} {p : GKey × (Int × Int)} (hs : Since l) (hp : p ∈ l) (h : ∀ x ∈ l, ¬ ahead x.2 p.2) : bestL l = some p := by
  cases hb : bestL l with
  | none => rw [bestL_none hb] at hp; simp at hp
  | some b =>
    by_cases hbp : p = b
    · rw [hbp]
    · exact absurd (bestL_ahead hs hb p hp hbp) (h b (bestL_mem hb))

def firstV (l : List (GKey × (Int × Int))) : Value :=
  match bestL l with
  | none => .tuple #[.agg #[.int .u8 0, .string ⟨#[]⟩], .agg #[.int .i64 0, .int .u64 0], .bool false]
  | some p => .tuple #[.agg #[.int .u8 p.1.kind, .string p.1.name], .agg #[.int .i64 p.2.1, .int .u64 p.2.2], .bool true]

/-- what the loop has found among the entries that it has seen -/
def Found (es : Array MapEntry) (l : List (GKey × (Int × Int))) (seen : Array Nat) (ok : Bool) (k : GKey) (s d : Int) : Prop :=
  if ok then (k, (s, d)) ∈ l ∧ ∀ e ∈ es.toList, seen.contains e.born = true → ∀ p, e.val = encWait p → ¬ ahead p (s, d)
  else k = ⟨0, ⟨#[]⟩⟩ ∧ s = 0 ∧ d = 0 ∧ ∀ e ∈ es.toList, seen.contains e.born = false

theorem entry_of {es : Array MapEntry} {clock : Nat} {l : List (GKey × (Int × Int))} (h : MapRep es clock encWait l) {e : MapEntry} (he : e ∈ es.toList) : ∃ k s d, e.key = encKey k ∧ e.val = encWait (s, d) ∧ (k, (s, d)) ∈ l := by
  have h1 : (e.key, e.val) ∈ es.toList.map (fun e => (e.key, e.val)) := List.mem_map.2 ⟨e, he, rfl⟩
  rw [h.eq] at h1
  obtain ⟨⟨k, s, d⟩, hp, heq⟩ := List.mem_map.1 h1
  simp only [Prod.mk.injEq] at heq
  exact ⟨k, s, d, heq.1.symm, heq.2.symm, hp⟩
theorem of_entry {es : Array MapEntry} {clock : Nat} {l : List (GKey × (Int × Int))} (h : MapRep es clock encWait l) {p : GKey × (Int × Int)} (hp : p ∈ l) : ∃ e ∈ es.toList, e.val = encWait p.2 := by
  have h1 : (encKey p.1, encWait p.2) ∈ l.map (fun p => (encKey p.1, encWait p.2)) := List.mem_map.2 ⟨p, hp, rfl⟩
  rw [← h.eq] at h1
  obtain ⟨e, he, heq⟩ := List.mem_map.1 h1
  simp only [Prod.mk.injEq] at heq
  exact ⟨e, he, heq.2⟩
theorem encWait_inj {p q : Int × Int} (h : encWait p = encWait q) : p = q := by
  cases p; cases q; simp [encWait] at h; simp [h]

theorem Found.start (es : Array MapEntry) (l : List (GKey × (Int × Int))) : Found es l #[] false ⟨0, ⟨#[]⟩⟩ 0 0 := by simp [Found]
theorem Found.first {es : Array MapEntry} {clock : Nat} {l : List (GKey × (Int × Int))} (h : MapRep es clock encWait l) {seen : Array Nat} {k : GKey} {s d : Int} {k' : GKey} {s' d' : Int} (hf : Found es l seen false k s d) {e : MapEntry} (he : e ∈ es.toList)
    (hv : e.val = encWait (s', d')) (hm : (k', (s', d')) ∈ l) : Found es l (seen.push e.born) true k' s' d' := by
  simp only [Found, Bool.false_eq_true, if_false] at hf
  obtain ⟨_, _, _, hf⟩ := hf
  simp only [Found, if_true]
  refine ⟨hm, fun x hx hc p hp => ?_⟩
  rw [contains_push, hf x hx, Bool.false_or] at hc
  have := born_inj h.nd hx he (by simpa using hc)
  subst this
  rw [hv] at hp
  have := encWait_inj hp
  subst this
  unfold ahead; simp
theorem Found.stay {es : Array MapEntry} {clock : Nat} {l : List (GKey × (Int × Int))} (h : MapRep es clock encWait l) {seen : Array Nat} {k : GKey} {s d s' d' : Int} (hf : Found es l seen true k s d) {e : MapEntry} (he : e ∈ es.toList)
    (hv : e.val = encWait (s', d')) (hn : ¬ ahead (s', d') (s, d)) : Found es l (seen.push e.born) true k s d := by
  simp only [Found, if_true] at hf ⊢
  refine ⟨hf.1, fun x hx hc p hp => ?_⟩
  rw [contains_push, Bool.or_eq_true] at hc
  rcases hc with hc | hc
  · exact hf.2 x hx hc p hp
  · have := born_inj h.nd hx he (by simpa using hc)
    subst this
    rw [hv] at hp
    have := encWait_inj hp
    subst this
    exact hn
theorem Found.turn {es : Array MapEntry} {clock : Nat} {l : List (GKey × (Int × Int))} (h : MapRep es clock encWait l) {seen : Array Nat} {k k' : GKey} {s d s' d' : Int} (hf : Found es l seen true k s d) {e : MapEntry} (he : e ∈ es.toList)
    (hv : e.val = encWait (s', d')) (hm : (k', (s', d')) ∈ l) (hn : ahead (s', d') (s, d) ∨ (s' = s ∧ d' = d)) : Found es l (seen.push e.born) true k' s' d' := by
  simp only [Found, if_true] at hf ⊢
  refine ⟨hm, fun x hx hc p hp => ?_⟩
  rw [contains_push, Bool.or_eq_true] at hc
  rcases hc with hc | hc
  · have := hf.2 x hx hc p hp
    unfold ahead at *; simp only at *; omega
  · have := born_inj h.nd hx he (by simpa using hc)
    subst this
    rw [hv] at hp
    have := encWait_inj hp
    subst this
    unfold ahead; simp
theorem Found.done {es : Array MapEntry} {clock : Nat} {l : List (GKey × (Int × Int))} (h : MapRep es clock encWait l) (hs : Since l) {seen : Array Nat} {ok : Bool} {k : GKey} {s d : Int} (hf : Found es l seen ok k s d) (h0 : (leftOf es seen).size = 0) :
    firstV l = .tuple #[.agg #[.int .u8 k.kind, .string k.name], .agg #[.int .i64 s, .int .u64 d], .bool ok] := by
  have ha := all_seen es seen h0
  cases ok with
  | false =>
    simp only [Found, Bool.false_eq_true, if_false] at hf
    obtain ⟨rfl, rfl, rfl, hf⟩ := hf
    have : es.toList = [] := by
      cases he : es.toList with
      | nil => rfl
      | cons e t =>
        have h1 := ha e (by simp [he])
        have h2 := hf e (by simp [he])
        rw [h1] at h2; cases h2
    have hl := h.eq
    rw [this] at hl
    have : l = [] := by simpa using hl.symm
    subst this
    rfl
  | true =>
    simp only [Found, if_true] at hf
    have := bestL_uniq hs hf.1 (fun x hx => by
      obtain ⟨e, he, hv⟩ := of_entry h hx
      exact hf.2 e he (ha e he) x.2 hv)
    simp [firstV, this]

/-- the loop's world -/
structure RS (w wr : World) (L : QLoc) (es : Array MapEntry) (clock : Nat) (k : GKey) (s d : Int) (seen : Array Nat) : Prop where
  a0 : wr.heap[w.heap.size]? = some (.cells #[.int .u8 k.kind, .string k.name] 28)
  a1 : wr.heap[w.heap.size + 1]? = some (.cells #[.int .i64 s, .int .u64 d] 66)
  a2 : wr.heap[w.heap.size + 2]? = some (.mapIter (some L.bw) clock seen clock)
  am : wr.heap[L.bw]? = some (.map es clock)
  lt : L.bw < w.heap.size
  b : Below w.heap.size w wr
  sz : w.heap.size + 3 ≤ wr.heap.size

open Go.ChangeMaps (setBlock) in
theorem Below.setBlock {b : Nat} {w w' : World} (h : Below b w w') {r : Nat} (hr : b ≤ r) (o : Obj) : Below b w (setBlock w' r o) := by
  refine h.trans (b := w') ⟨rfl, rfl, rfl, by simp [Go.ChangeMaps.setBlock], fun k hk => setBlock_ne (by omega)⟩
theorem RS.next {w wr : World} {L : QLoc} {es : Array MapEntry} {clock : Nat} {k : GKey} {s d : Int} {seen : Array Nat} {l : List (GKey × (Int × Int))} (h : RS w wr L es clock k s d seen) (hr : MapRep es clock encWait l) :
    ((leftOf es seen).size = 0 ∧ ∀ ty, (Instr.next (.pointer (some ⟨w.heap.size + 2, 0, none⟩)) false ty).run Try.prog wr = .ok (.tuple #[.bool false]) wr) ∨
    ∃ e ∈ (leftOf es seen).toList, ∃ k' s' d' w1, e.val = encWait (s', d') ∧ (k', (s', d')) ∈ l ∧ RS w w1 L es clock k s d (seen.push e.born) ∧
      (∀ ty, (Instr.next (.pointer (some ⟨w.heap.size + 2, 0, none⟩)) false ty).run Try.prog wr = .ok (.tuple #[.bool true, .agg #[.int .u8 k'.kind, .string k'.name], .agg #[.int .i64 s', .int .u64 d']]) w1) ∧
      (Instr.entry (.pointer (some ⟨w.heap.size + 2, 0, none⟩))).run Try.prog w1 = .ok (.tuple #[.agg #[.int .u8 k'.kind, .string k'.name], .agg #[.int .i64 s', .int .u64 d']]) w1 := by
  rcases run_next_at (P := Try.prog) wr 0 (w.heap.size + 2) L.bw clock clock seen es clock h.a2 h.am hr.born (Nat.le_refl _) with ⟨h0, hrun⟩ | ⟨e, he, w1, hw1, hrun⟩
  · exact .inl ⟨h0, fun _ => hrun⟩
  · refine .inr ⟨e, he, ?_⟩
    have hmem := (mem_left he).1
    obtain ⟨k', s', d', hk, hv, hm⟩ := entry_of hr hmem
    have hlt := h.lt
    have hsz := h.sz
    have hw1h : w1.heap = wr.heap := by rcases hw1 with rfl | rfl <;> rfl
    have hb1 : Below w.heap.size w w1 := by rcases hw1 with rfl | rfl; exact h.b; exact h.b.drew
    have hS : RS w (Go.ChangeMaps.setBlock w1 (w.heap.size + 2) (.mapIter (some L.bw) clock (seen.push e.born) clock)) L es clock k s d (seen.push e.born) := by
      refine ⟨(setBlock_ne (by omega)).trans (by rw [hw1h]; exact h.a0), (setBlock_ne (by omega)).trans (by rw [hw1h]; exact h.a1), setBlock_same (by rw [hw1h]; omega), (setBlock_ne (by omega)).trans (by rw [hw1h]; exact h.am), hlt, Below.setBlock hb1 (by omega) _, ?_⟩
      simp [Go.ChangeMaps.setBlock, hw1h]; omega
    refine ⟨k', s', d', _, hv, hm, hS, fun _ => ?_, ?_⟩
    · rw [hk, hv] at hrun; exact hrun
    · have := run_entry_at (P := Try.prog) _ (w.heap.size + 2) L.bw clock seen es clock e hS.a2 hS.am hmem hr.nd
      rw [hk, hv] at this; exact this
end Go.Proofs.Ytemeedfldapcjaa
