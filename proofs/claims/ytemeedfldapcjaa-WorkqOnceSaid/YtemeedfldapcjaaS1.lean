/- A part of the walks: contracts of functions. -/
import Derived.Test.YtemeedfldapcjaaR4
import Derived.OwnWalk
import Derived.Laws.AppendOwnNone
namespace Go.Proofs.Ytemeedfldapcjaa
open Go.RowKit
set_option linter.unusedVariables false
set_option linter.unusedSimpArgs false
theorem info79 : (Try.prog.info? 79).map (fun i => (i.zero, i.size, i.bytes)) = some (some (.agg #[.int .u8 0, .string ⟨#[]⟩, .int .u64 0]), 3, 32) := by kernel_rfl
theorem info81 : (Try.prog.info? 81).map (fun i => (i.zero, i.size, i.bytes)) = some (some (.agg #[.int .u8 0, .string ⟨#[]⟩, .int .i64 0]), 3, 32) := by kernel_rfl

theorem wpList_append_row {P : Program} {w : World} {ops : Array Oper} {rest : List Oper} {o : Oper} {a : Act} {Q : Exit → Act → World → Prop} (hgd : o.guard = none) (s x : Operand) (t : TypeId)
    (ho : o.op = .call { callee := .builtin .append, args := #[s, x], argTypes := #[t, t] }) (e : TypeId) (z : Value) (bytes : Nat) (ht : P.underlying t = some (.slice e)) (hi : (P.info? e).map (fun i => (i.zero, i.size, i.bytes)) = some (some z, 3, bytes))
    (hzs : z.cells.size = 3) (hby : bytes ≤ 64) (base : Nat) (v : Value) (n : Nat) (xs : List Value) (hs : a.eval s = v) (hown : w.ownsRow base e 3 v n xs) (v2 : Value) (m : Nat) (ys : List Value) (hx : a.eval x = v2) (hsrc : w.ownsRow 0 e 3 v2 m ys)
    (h1 : ∀ u ∈ ys, u.oneCell' = true) (hlen : n + m ≤ 1000000) (hbase : base ≤ w.heap.size)
    (h : ∀ v' w', w'.ownsRow base e 3 v' (n + m) (xs ++ ys) → w.grownBy w' v.ownBlock → wpList P ops Q rest (a.put o.dst v') w') : wpList P ops Q (o :: rest) a w := by
  obtain ⟨i, hi1, hi2, hi3, hi4⟩ := info_parts hi
  obtain ⟨hy, ⟨rfl, rfl⟩ | ⟨g, cap, cur, rfl, _, hg, q1, q2, q3, q4⟩⟩ := hsrc
  · have : ys = [] := by simpa using hy
    subst this
    refine wpList_append_own_none hgd s x t ho base e i 3 ht hi1 v n xs hs hown hx ?_
    refine h v w (by simpa using hown) ⟨rfl, rfl, rfl, Nat.le_refl _, fun _ _ _ => rfl⟩
  · refine wpList_append_own w hgd s x t ho base e i z 3 bytes ht hi1 hi2 hi3 hi4 hzs (by omega) v n xs hs hown ⟨g, 0, none⟩ m cap ys hx hy ?_ h1 (by unfold maxLen; omega) ?_ hbase (fun v' w' a b _ => h v' w' a b)
    · intro j u hu
      have hj : j < m * 3 := by rw [← hy]; exact (List.getElem?_eq_some_iff.1 hu).1
      have := (row_cell hg q4 hu hj).1
      by_cases hj0 : j = 0
      · subst hj0; simpa [Addr.add] using this
      · simpa [Addr.add, hj0] using this
    · have : (n + m) * bytes ≤ 1000000 * 64 := Nat.mul_le_mul hlen hby
      omega

theorem one_cellsI (l : List (GKey × Int)) : ∀ u ∈ l.flatMap cellsI, u.oneCell' = true := by
  intro u hu
  obtain ⟨p, _, hp⟩ := List.mem_flatMap.1 hu
  simp at hp
  rcases hp with rfl | rfl | rfl <;> rfl
theorem one_cellsF (l : List (GKey × Int)) : ∀ u ∈ l.flatMap cellsF, u.oneCell' = true := by
  intro u hu
  obtain ⟨p, _, hp⟩ := List.mem_flatMap.1 hu
  simp at hp
  rcases hp with rfl | rfl | rfl <;> rfl

theorem Keeps.of_grown {w w' : World} {row : Option Nat} (h : w.grownBy w' row) : Keeps (fun k => row = some k) w w' :=
  ⟨h.os, h.tape, h.output, h.size, fun k hk hf => h.block k hk (fun e => hf e.symm)⟩
theorem row_own {w w' : World} {e : TypeId} {v : Value} {n : Nat} {xs : List Value} {b : Nat} (h : w.ownsRow b e 3 v n xs) (hk : ∀ k, v.ownBlock = some k → w'.heap[k]? = w.heap[k]?) : w'.ownsRow b e 3 v n xs := by
  obtain ⟨hx, h | ⟨g, cap, cur, hv, hb, hg, h1⟩⟩ := h
  · exact ⟨hx, .inl h⟩
  · exact ⟨hx, .inr ⟨g, cap, cur, hv, hb, (hk g (by rw [hv]; rfl)).trans hg, h1⟩⟩
theorem row_below {w w' : World} {e : TypeId} {v : Value} {n : Nat} {xs : List Value} {b B : Nat} (h : w.ownsRow b e 3 v n xs) (hB : Below B w w') (hlt : ∀ k, v.ownBlock = some k → k < B) : w'.ownsRow b e 3 v n xs :=
  row_own h fun k e => hB.block k (hlt k e)
theorem row_lt {w : World} {e : TypeId} {v : Value} {n : Nat} {xs : List Value} {b : Nat} (h : w.ownsRow b e 3 v n xs) {k : Nat} (hk : v.ownBlock = some k) : b ≤ k ∧ k < w.heap.size := by
  obtain ⟨hx, ⟨rfl, _⟩ | ⟨g, cap, cur, hv, hb, hg, h1⟩⟩ := h
  · cases hk
  · rw [hv] at hk
    obtain rfl : g = k := by simpa [Value.ownBlock] using hk
    exact ⟨hb, heap_lt hg⟩
theorem row_alloc {w : World} {e : TypeId} {v : Value} {n : Nat} {xs : List Value} {b : Nat} (h : w.ownsRow b e 3 v n xs) (o : Obj) : (w.alloc o).ownsRow b e 3 v n xs :=
  row_own h fun k hk => heap_alloc_lt (row_lt h hk).2
theorem row_one {w : World} {b : Nat} (_ : b ≤ w.heap.size) (e : TypeId) (cs : Array Value) (hcs : cs.size = 3) : (w.alloc (.cells cs e)).ownsRow 0 e 3 (.slice (some ⟨w.heap.size, 0, none⟩) 1 1) 1 cs.toList :=
  ⟨by simpa using hcs, .inr ⟨w.heap.size, 1, cs, rfl, Nat.zero_le _, heap_alloc_eq, Nat.le_refl _, by unfold maxLen; omega, by simpa using hcs, by rw [List.take_of_length_le]; simp [hcs]⟩⟩
theorem row_none {w : World} {b : Nat} (hb : b ≤ w.heap.size) (e : TypeId) : (w.alloc (.cells #[] e)).ownsRow b e 3 (.slice (some ⟨w.heap.size, 0, none⟩) 0 0) 0 [] :=
  World.ownsRow_made w #[] 0 hb (Nat.zero_le _) rfl
theorem row_grown {w w' : World} {e : TypeId} {v : Value} {n : Nat} {xs : List Value} {b : Nat} {row : Option Nat} (h : w.ownsRow b e 3 v n xs) (hg : w.grownBy w' row) (hne : ∀ k, v.ownBlock = some k → row ≠ some k) : w'.ownsRow b e 3 v n xs :=
  row_own h fun k hk => hg.block k (row_lt h hk).2 (fun e => hne k hk e.symm)
theorem Below.grown_at {B : Nat} {w w' : World} {row : Option Nat} (hg : w.grownBy w' row) (hr : ∀ k, row = some k → B ≤ k) (hB : B ≤ w.heap.size) : Below B w w' :=
  ⟨hg.os, hg.tape, hg.output, hg.size, fun k hk => hg.block k (by omega) (fun e => by have := hr k e.symm; omega)⟩

theorem row_apart {w : World} {e : TypeId} {v : Value} {n m c : Nat} {xs : List Value} {b : Nat} (h : w.ownsRow b e 3 v n xs) : ∀ k, (Value.slice (some ⟨w.heap.size, 0, none⟩) m c).ownBlock = some k → v.ownBlock ≠ some k := by
  intro k hk h2
  have h3 := (row_lt h h2).2
  simp [Value.ownBlock] at hk
  omega
theorem row_apart' {w : World} {e : TypeId} {v : Value} {n m c : Nat} {xs : List Value} {b : Nat} (h : w.ownsRow b e 3 v n xs) : ∀ k, v.ownBlock = some k → (Value.slice (some ⟨w.heap.size, 0, none⟩) m c).ownBlock ≠ some k := by
  intro k hk h2
  exact row_apart h k h2 hk
end Go.Proofs.Ytemeedfldapcjaa
