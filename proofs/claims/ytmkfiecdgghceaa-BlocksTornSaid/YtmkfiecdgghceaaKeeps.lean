/- Blocks of the heap behind what a walk does; whole rows of cells read and written. -/
import Derived.Test.YtmkfiecdgghceaaRows
import Derived.WalkKit
import Derived.WalkLawsBesides
import Derived.Below
import Derived.Laws.AppendOwn
namespace Go.Proofs.Ytmkfiecdgghceaa
open Go.RowKit
set_option linter.unusedVariables false
set_option linter.unusedSimpArgs false

/-- the world with another object in a block -/
def Wset (w : World) (b : Nat) (o : Go.Obj) : World := { w with heap := w.heap.setIfInBounds b o }

/-! ### blocks of the heap behind what a walk does -/
theorem heap_drew (w : World) : w.drew.heap = w.heap := rfl
theorem heap_alloc_lt {w : World} {o : Go.Obj} {b : Nat} (h : b < w.heap.size) : (w.alloc o).heap[b]? = w.heap[b]? := Below.heap_alloc w o b h
theorem heap_alloc_eq {w : World} {o : Go.Obj} : (w.alloc o).heap[w.heap.size]? = some o := by
  show (w.heap.push o)[w.heap.size]? = _
  simp
theorem heap_setCell_ne {w : World} {a : Addr} {v : Value} {b : Nat} (h : b ≠ a.block) : (w.setCell a v).heap[b]? = w.heap[b]? := Below.heap_setCell w a v b h
theorem heap_setCell_same {w : World} {b o : Nat} {v : Value} {cs : Array Value} {t : TypeId} {fr : Nat × Nat} (h : w.heap[b]? = some (.cells cs t fr)) :
    (w.setCell ⟨b, o, none⟩ v).heap[b]? = some (.cells (cs.setIfInBounds o v) t fr) := by
  simp [World.setCell, Array.getElem?_modify, h]
theorem Wset_same {w : World} {b : Nat} {o : Go.Obj} (h : b < w.heap.size) : (Wset w b o).heap[b]? = some o := by simp [Wset, h]
theorem Wset_ne {w : World} {b c : Nat} {o : Go.Obj} (h : c ≠ b) : (Wset w b o).heap[c]? = w.heap[c]? := by
  simp only [Wset]; rw [Array.getElem?_setIfInBounds_ne (fun e => h e.symm)]
theorem Wset_size {w : World} {b : Nat} {o : Go.Obj} : (Wset w b o).heap.size = w.heap.size := by simp [Wset]
theorem Wset_cell {w : World} {b : Nat} {o : Go.Obj} {a : Addr} (h : a.block ≠ b) : (Wset w b o).cell? a = w.cell? a := World.cell?_of_block (w := w) (Wset_ne h)
theorem Wset_frozen {w : World} {b : Nat} {o : Go.Obj} {a : Addr} (h : a.block ≠ b) : (Wset w b o).frozen? a = w.frozen? a := World.frozen?_of_block (w := w) (Wset_ne h)

/-- all but some blocks stays; nothing goes -/
structure Keeps (F : Nat → Prop) (w w' : World) : Prop where
  os : w'.os = w.os
  tape : w'.tape = w.tape
  output : w'.output = w.output
  size : w.heap.size ≤ w'.heap.size
  block : ∀ k, k < w.heap.size → ¬ F k → w'.heap[k]? = w.heap[k]?

theorem Keeps.refl (F : Nat → Prop) (w : World) : Keeps F w w := ⟨rfl, rfl, rfl, Nat.le_refl _, fun _ _ _ => rfl⟩
theorem Keeps.trans {F : Nat → Prop} {a b c : World} (h : Keeps F a b) (k : Keeps F b c) : Keeps F a c :=
  ⟨k.os.trans h.os, k.tape.trans h.tape, k.output.trans h.output, Nat.le_trans h.size k.size, fun i hi hf => (k.block i (Nat.lt_of_lt_of_le hi h.size) hf).trans (h.block i hi hf)⟩
/-- one step more, that may write what is new -/
theorem Keeps.step {F : Nat → Prop} {a b c : World} (h : Keeps F a b) {G : Nat → Prop} (k : Keeps G b c) (hG : ∀ i, i < a.heap.size → ¬ F i → ¬ G i) : Keeps F a c :=
  ⟨k.os.trans h.os, k.tape.trans h.tape, k.output.trans h.output, Nat.le_trans h.size k.size, fun i hi hf => (k.block i (Nat.lt_of_lt_of_le hi h.size) (hG i hi hf)).trans (h.block i hi hf)⟩
theorem Keeps.mono {F G : Nat → Prop} {a b : World} (h : Keeps F a b) (hG : ∀ i, i < a.heap.size → F i → G i) : Keeps G a b :=
  ⟨h.os, h.tape, h.output, h.size, fun i hi hf => h.block i hi (fun hx => hf (hG i hi hx))⟩
theorem Keeps.drew {F : Nat → Prop} {a w : World} (h : Keeps F a w) : Keeps F a w.drew := ⟨h.os, h.tape, h.output, h.size, h.block⟩
theorem Keeps.alloc {F : Nat → Prop} {a w : World} (h : Keeps F a w) (o : Go.Obj) : Keeps F a (w.alloc o) :=
  h.trans ⟨rfl, rfl, rfl, by simp, fun k hk _ => Below.heap_alloc _ _ _ hk⟩
theorem Keeps.setCell {F : Nat → Prop} {a w : World} (h : Keeps F a w) {p : Addr} (hp : p.block < a.heap.size → F p.block) (u : Value) : Keeps F a (w.setCell p u) :=
  h.step (G := fun i => i = p.block) ⟨rfl, rfl, rfl, by simp [World.setCell], fun k _ hf => Below.heap_setCell _ _ _ _ hf⟩ (fun i hi hf e => hf (e ▸ hp (e ▸ hi)))
theorem Keeps.wset {F : Nat → Prop} {a w : World} (h : Keeps F a w) {b : Nat} (hp : b < a.heap.size → F b) (o : Go.Obj) : Keeps F a (Wset w b o) :=
  h.step (G := fun i => i = b) ⟨rfl, rfl, rfl, by simp [Wset], fun k _ hf => Wset_ne hf⟩ (fun i hi hf e => hf (e ▸ hp (e ▸ hi)))
theorem Keeps.below {F : Nat → Prop} {a w : World} (h : Keeps F a w) (hF : ∀ i, i < a.heap.size → ¬ F i) : Below a.heap.size a w :=
  ⟨h.os, h.tape, h.output, h.size, fun k hk => h.block k hk (hF k hk)⟩
theorem Keeps.of_below {F : Nat → Prop} {a w : World} (h : Below a.heap.size a w) : Keeps F a w :=
  ⟨h.os, h.tape, h.output, h.size, fun k hk _ => h.block k hk⟩

theorem cells_of_block {w : World} {b : Nat} {cs : Array Value} {t : TypeId} (h : w.heap[b]? = some (.cells cs t (0, 0))) (o : Nat) (v : Value) (hv : cs[o]? = some v) :
    w.cell? ⟨b, o, none⟩ = some v ∧ w.frozen? ⟨b, o, none⟩ = false := by
  simp [World.cell?, World.frozen?, h, hv]
theorem heap_lt {w : World} {b : Nat} {o : Go.Obj} (h : w.heap[b]? = some o) : b < w.heap.size := (Array.getElem?_eq_some_iff.1 h).1
theorem setCell_block {w : World} {b i : Nat} {cs : Array Value} {t : TypeId} {fr : Nat × Nat} (h : w.heap[b]? = some (.cells cs t fr)) (v : Value) :
    w.setCell ⟨b, i, none⟩ v = Wset w b (.cells (cs.setIfInBounds i v) t fr) := by
  unfold World.setCell Wset
  congr 1
  apply Array.ext_getElem?
  intro k
  by_cases hk : b = k
  · subst hk
    have := (Array.getElem?_eq_some_iff.1 h).1
    rw [Array.getElem?_setIfInBounds_self_of_lt this]
    simp [Array.getElem?_modify, h]
  · simp [Array.getElem?_modify, hk, Array.getElem?_setIfInBounds_ne hk]
theorem Wset_twice {w : World} {b : Nat} {o p : Go.Obj} : Wset (Wset w b o) b p = Wset w b p := by simp [Wset]

def oneV : Value → Bool
  | .agg _ | .tuple _ => false
  | _ => true

theorem store_cells {P : Program} {b : Nat} {t : TypeId} (all : Array Value) (hone : ∀ v ∈ all.toList, oneV v = true) : ∀ (vs : List Value) (i : Nat) (cs : Array Value) (w : World), w.heap[b]? = some (.cells cs t (0, 0)) → cs.size = all.size → vs = all.toList.drop i →
    cs.toList.take i = all.toList.take i → (storeCells ⟨b, 0, none⟩ vs i).run P w = .ok () (Wset w b (.cells all t (0, 0)))
  | [], i, cs, w, h, hs, hv, hp => by
    have hi : all.size ≤ i := by simpa using (List.drop_eq_nil_iff.1 hv.symm)
    have : cs = all := by
      apply Array.toList_inj.1
      rw [List.take_of_length_le (by simp; omega), List.take_of_length_le (by simp; omega)] at hp
      exact hp
    subst this
    have e : Wset w b (.cells cs t (0, 0)) = w := by
      unfold Wset
      have hb := (Array.getElem?_eq_some_iff.1 h)
      congr 1
      apply Array.ext_getElem?
      intro k
      by_cases hk : b = k
      · subst hk; simp [hb.1, hb.2]
      · simp [Array.getElem?_setIfInBounds_ne hk]
    rw [e]
    simp [storeCells]
  | v :: vs, i, cs, w, h, hs, hv, hp => by
    have hi : i < all.size := by
      rcases Nat.lt_or_ge i all.size with h1 | h1
      · exact h1
      · rw [List.drop_eq_nil_of_le (by simpa using h1)] at hv; cases hv
    have hvi : v = all[i] ∧ vs = all.toList.drop (i + 1) := by
      rw [List.drop_eq_getElem_cons (by simpa using hi)] at hv
      simpa using hv
    have e : (Addr.add ⟨b, 0, none⟩ i) = ⟨b, i, none⟩ := by
      unfold Addr.add; by_cases h0 : i = 0 <;> simp [h0]
    have hc : ∃ u, w.cell? ⟨b, i, none⟩ = some u := ⟨cs[i]'(by omega), by simp [World.cell?, h, hs, hi]⟩
    obtain ⟨u, hc⟩ := hc
    have hf : w.frozen? ⟨b, i, none⟩ = false := by simp [World.frozen?, h]
    have hv1 : oneV v = true := hone v (by rw [hvi.1]; simp)
    have hst : (store ⟨b, i, none⟩ v).run P w = .ok () (w.setCell ⟨b, i, none⟩ v) := by
      unfold store
      cases v <;> simp [oneV] at hv1 <;> simp [Sem.run, hc, hf]
    simp only [storeCells, Sem.run_bind, e, hst, Result.andThen]
    rw [setCell_block h v]
    have hb := (Array.getElem?_eq_some_iff.1 h).1
    rw [store_cells all hone vs (i + 1) (cs.setIfInBounds i v) _ (Wset_same hb) (by simp [hs]) hvi.2 ?_, Wset_twice]
    apply List.ext_getElem?
    intro k
    have hpk : (cs.toList.take i)[k]? = (all.toList.take i)[k]? := by rw [hp]
    simp only [List.getElem?_take, Array.toList_setIfInBounds, List.getElem?_set, Array.getElem?_toList, Array.length_toList] at hpk ⊢
    by_cases h1 : k < i + 1
    · by_cases h2 : i = k
      · subst h2; simp [hs, hi, hvi.1]
      · have h3 : k < i := by omega
        simp [h3] at hpk
        simp [h1, h2, hpk]
    · simp [h1]


theorem load_cells_at {P : Program} {b o : Nat} {cs : Array Value} {w : World} (h : ∀ k, k < cs.size → w.cell? ⟨b, o + k, none⟩ = cs[k]?) :
    ∀ (n i : Nat) (acc : Array Value), i + n = cs.size → acc = cs.extract 0 i → (loadCellsFrom ⟨b, o, none⟩ i n acc).run P w = .ok cs w
  | 0, i, acc, hi, ha => by
    have : i = cs.size := by omega
    subst this; subst ha
    simp [loadCellsFrom]
  | n + 1, i, acc, hi, ha => by
    have hlt : i < cs.size := by omega
    have hc := h i hlt
    rw [Array.getElem?_eq_getElem hlt] at hc
    simp only [loadCellsFrom, Sem.run_bind, load, Addr.add_lit, Sem.run, hc, Result.andThen]
    refine load_cells_at h n (i + 1) _ (by omega) ?_
    subst ha
    simp [hlt]

theorem grownBy_keeps' {w w' : World} {row : Option Nat} (h : w.grownBy w' row) : Keeps (fun i => some i = row) w w' := ⟨h.os, h.tape, h.output, h.size, fun k hk hf => h.block k hk hf⟩
theorem ownsRow_of_heap {w w' : World} {B : Nat} {e : TypeId} {s : Nat} {v : Value} {n : Nat} {xs : List Value} (h : w.ownsRow B e s v n xs) (hk : ∀ k, v.ownBlock = some k → w'.heap[k]? = w.heap[k]?) : w'.ownsRow B e s v n xs := by
  obtain ⟨h1, h2 | ⟨g, cap, cur, rfl, e2, e3, e4⟩⟩ := h
  · exact ⟨h1, .inl h2⟩
  · exact ⟨h1, .inr ⟨g, cap, cur, rfl, e2, (hk g rfl).trans e3, e4⟩⟩
theorem ownsRow_mono {w : World} {B B' : Nat} {e : TypeId} {s : Nat} {v : Value} {n : Nat} {xs : List Value} (h : w.ownsRow B e s v n xs) (hB : B' ≤ B) : w.ownsRow B' e s v n xs := by
  obtain ⟨h1, h2 | ⟨g, cap, cur, e1, e2, e3⟩⟩ := h
  · exact ⟨h1, .inl h2⟩
  · exact ⟨h1, .inr ⟨g, cap, cur, e1, by omega, e3⟩⟩

end Go.Proofs.Ytmkfiecdgghceaa
