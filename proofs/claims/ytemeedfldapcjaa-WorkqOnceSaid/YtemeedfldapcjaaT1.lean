/- A part of the walks: contracts of functions. -/
import Derived.Test.YtemeedfldapcjaaS7
namespace Go.Proofs.Ytemeedfldapcjaa
open Go.RowKit
set_option linter.unusedVariables false
set_option linter.unusedSimpArgs false
/-! ### List -/
/-- in the order in which they are taken -/
def drain : Nat → List (GKey × (Int × Int)) → List GKey
  | 0, _ => []
  | n + 1, l => match bestL l with
    | none => []
    | some p => p.1 :: drain n (assocDel l p.1)
abbrev keyCells (k : GKey) : List Value := [.int .u8 k.kind, .string k.name]
theorem flat_len2 (l : List GKey) : (l.flatMap keyCells).length = l.length * 2 := by
  induction l with
  | nil => rfl
  | cons a l ih => simp only [List.flatMap_cons, List.length_append, ih, List.length_cons]; simp; omega
theorem info28 : (Try.prog.info? 28).map (fun i => (i.zero, i.size, i.bytes)) = some (some (.agg #[.int .u8 0, .string ⟨#[]⟩]), 2, 24) := by kernel_rfl
theorem one_keys (l : List GKey) : ∀ u ∈ l.flatMap keyCells, u.oneCell' = true := by
  intro u hu
  obtain ⟨p, _, hp⟩ := List.mem_flatMap.1 hu
  simp at hp
  rcases hp with rfl | rfl <;> rfl

/-- one key more, behind an own row of keys -/
theorem wpList_append_key {w : World} {ops : Array Oper} {rest : List Oper} {o : Oper} {a : Act} {Q : Exit → Act → World → Prop} (hgd : o.guard = none) (s x : Operand)
    (ho : o.op = .call { callee := .builtin .append, args := #[s, x], argTypes := #[49, 49] }) (base : Nat) (v : Value) (n : Nat) (xs : List GKey) (hs : a.eval s = v) (hown : w.ownsRow base 28 2 v n (xs.flatMap keyCells)) (k : GKey) (b : Nat)
    (hx : a.eval x = .slice (some ⟨b, 0, none⟩) 1 1) (hb : w.heap[b]? = some (.cells #[.int .u8 k.kind, .string k.name] 28)) (hlen : n ≤ 1000) (hbase : base ≤ w.heap.size)
    (h : ∀ v' w', w'.ownsRow base 28 2 v' (n + 1) ((xs ++ [k]).flatMap keyCells) → w.grownBy w' v.ownBlock → wpList Try.prog ops Q rest (a.put o.dst v') w') : wpList Try.prog ops Q (o :: rest) a w := by
  obtain ⟨i, hi1, hi2, hi3, hi4⟩ := info_parts info28
  refine wpList_append_own w hgd s x 49 ho base 28 i _ 2 24 Try.underlying49 hi1 hi2 hi3 hi4 rfl (by omega) v n _ hs hown ⟨b, 0, none⟩ 1 1 (keyCells k) hx rfl ?_ ?_ (by unfold maxLen; omega) (by omega) hbase (fun v' w' q1 q2 _ => h v' w' (by simpa using q1) q2)
  · intro j u hu
    have hj : j < 2 := (List.getElem?_eq_some_iff.1 hu).1
    have h01 : j = 0 ∨ j = 1 := by omega
    rcases h01 with rfl | rfl
    · have := (cells_of_block hb 0 _ rfl).1; simp at hu; subst hu; simpa [Addr.add] using this
    · have := (cells_of_block hb 1 _ rfl).1; simp at hu; subst hu; simpa [Addr.add] using this
  · intro u hu
    simp at hu
    rcases hu with rfl | rfl <;> rfl

theorem keysRow_lt {w : World} {e s : Nat} {v : Value} {n : Nat} {xs : List Value} {b : Nat} (h : w.ownsRow b e s v n xs) {k : Nat} (hk : v.ownBlock = some k) : b ≤ k ∧ k < w.heap.size := by
  obtain ⟨hx, ⟨rfl, _⟩ | ⟨g, cap, cur, hv, hb, hg, h1⟩⟩ := h
  · cases hk
  · rw [hv] at hk
    obtain rfl : g = k := by simpa [Value.ownBlock] using hk
    exact ⟨hb, heap_lt hg⟩
theorem keysRow_own {w w' : World} {e s : Nat} {v : Value} {n : Nat} {xs : List Value} {b : Nat} (h : w.ownsRow b e s v n xs) (hk : ∀ k, v.ownBlock = some k → w'.heap[k]? = w.heap[k]?) : w'.ownsRow b e s v n xs := by
  obtain ⟨hx, h | ⟨g, cap, cur, hv, hb, hg, h1⟩⟩ := h
  · exact ⟨hx, .inl h⟩
  · exact ⟨hx, .inr ⟨g, cap, cur, hv, hb, (hk g (by rw [hv]; rfl)).trans hg, h1⟩⟩
theorem keysRow_block {w : World} {e s : Nat} {v : Value} {n : Nat} {xs : List Value} {b : Nat} (h : w.ownsRow b e s v n xs) {k : Nat} (hk : v.ownBlock = some k) : ∃ cur, w.heap[k]? = some (.cells cur e (0, 0)) := by
  obtain ⟨hx, ⟨rfl, _⟩ | ⟨g, cap, cur, hv, hb, hg, h1⟩⟩ := h
  · cases hk
  · rw [hv] at hk
    obtain rfl : g = k := by simpa [Value.ownBlock] using hk
    exact ⟨cur, hg⟩

theorem drain_nil (l : List (GKey × (Int × Int))) (h : bestL l = none) (n : Nat) : drain n l = [] := by cases n <;> simp [drain, h]
theorem drain_cons {l : List (GKey × (Int × Int))} {p : GKey × (Int × Int)} (h : bestL l = some p) : drain l.length l = p.1 :: drain (assocDel l p.1).length (assocDel l p.1) := by
  have hm := bestL_mem h
  have hl := del_len hm
  have hp := List.length_pos_of_mem hm
  obtain ⟨n, hn⟩ : ∃ n, l.length = n + 1 := ⟨l.length - 1, by omega⟩
  rw [hl, hn]
  simp only [drain, h, Nat.add_sub_cancel]
theorem take_top {q : WQ} (ht : ∀ p ∈ q.waits, p.2.2 ≤ topU) : (takeR q topU = none ∧ bestL q.waits = none) ∨ ∃ p, takeR q topU = some p.1 ∧ bestL q.waits = some p := by
  cases hb : bestL q.waits with
  | none => exact .inl ⟨by simp [takeR, hb], rfl⟩
  | some p => exact .inr ⟨p, by simp [takeR, hb, ht p (bestL_mem hb)], rfl⟩

theorem QAt.apartK {w : World} {M : QLoc} {q : WQ} (hq : QAt w M q) {i : Nat} {cur : Array Value} {f : Nat × Nat} (h : w.heap[i]? = some (.cells cur 28 f)) : ¬ M.mine i := by
  obtain ⟨h1, ⟨es, c, h2, _⟩, ⟨es', c', h3, _⟩, _⟩ := hq
  rintro (rfl | rfl | rfl)
  · rw [h1] at h; exact absurd h (by simp)
  · rw [h2] at h; exact absurd h (by simp)
  · rw [h3] at h; exact absurd h (by simp)

/-- where the loop of List stands: what it holds, what it has at hand, what is left -/
structure LS (w wr : World) (M : QLoc) (q : WQ) (keys out pend : List GKey) (v : Value) : Prop where
  qa : QAt wr M q
  b : Below w.heap.size w wr
  new : ∀ i, M.mine i → w.heap.size ≤ i
  row : wr.ownsRow w.heap.size 28 2 v out.length (out.flatMap keyCells)
  since : Since q.waits
  ks : (q.waits.map (·.1)).Nodup
  top : ∀ p ∈ q.waits, p.2.2 ≤ topU
  eqn : keys = out ++ pend ++ drain q.waits.length q.waits

theorem LS.took {w wr w' : World} {M : QLoc} {q : WQ} {keys out : List GKey} {v : Value} (h : LS w wr M q keys out [] v) (hq : QAt w' M (q.took topU)) (hk : Keeps M.mine wr w') :
    (takeR q topU = none ∧ LS w w' M q keys out [] v ∧ keys = out) ∨ ∃ k, takeR q topU = some k ∧ LS w w' M (q.drop k) keys out [k] v := by
  have hrow : w'.ownsRow w.heap.size 28 2 v out.length (out.flatMap keyCells) := keysRow_own h.row fun i hi => by
    obtain ⟨cur, hc⟩ := keysRow_block h.row hi
    exact hk.block _ (heap_lt hc) (h.qa.apartK hc)
  have hb := below_mine h.b hk h.new
  rcases take_top h.top with ⟨h1, h2⟩ | ⟨p, h1, h2⟩
  · have e : q.took topU = q := by simp [WQ.took, h1]
    rw [e] at hq
    refine .inl ⟨h1, ⟨hq, hb, h.new, hrow, h.since, h.ks, h.top, h.eqn⟩, ?_⟩
    rw [h.eqn, drain_nil _ h2]; simp
  · have e : q.took topU = q.drop p.1 := by simp [WQ.took, h1]
    rw [e] at hq
    refine .inr ⟨p.1, h1, hq, hb, h.new, hrow, since_del h.since, (del_sub.map _).nodup h.ks, fun x hx => h.top x (del_sub.subset hx), ?_⟩
    rw [h.eqn, drain_cons h2]; simp [WQ.drop]

/-- a list of keys that was made -/
def KeysAt (w w' : World) (v : Value) (keys : List GKey) : Prop := w'.ownsRow w.heap.size 28 2 v keys.length (keys.flatMap keyCells) ∧ Below w.heap.size w w'
def ListPost (w : World) (keys : List GKey) (e : Ending) (w' : World) : Prop := ∃ v, e = .returned v ∧ KeysAt w w' v keys
end Go.Proofs.Ytemeedfldapcjaa
