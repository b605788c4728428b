/- A part of the walks: contracts of functions. -/
import Derived.Test.YtemeedfldapcjaaQ4
import Derived.RegionTactic
import Derived.Laws.AppendOwn
namespace Go.Proofs.Ytemeedfldapcjaa
open Go.RowKit
set_option linter.unusedVariables false
set_option linter.unusedSimpArgs false
/-! ### the document's queue -/
structure RLoc where
  rq : Nat
  vl : Value
  vf : Value
structure RQ where
  l : List (GKey × Int)
  fs : List (GKey × Int)
abbrev cellsI (p : GKey × Int) : List Value := [.int .u8 p.1.kind, .string p.1.name, .int .u64 p.2]
abbrev cellsF (p : GKey × Int) : List Value := [.int .u8 p.1.kind, .string p.1.name, .int .i64 p.2]

structure RAt (w : World) (R : RLoc) (r : RQ) : Prop where
  hd : w.heap[R.rq]? = some (.cells #[R.vl, R.vf] 76)
  hl : w.ownsRow 0 79 3 R.vl r.l.length (r.l.flatMap cellsI)
  hf : w.ownsRow 0 81 3 R.vf r.fs.length (r.fs.flatMap cellsF)

def RLoc.mine (R : RLoc) (k : Nat) : Prop := k = R.rq ∨ R.vl.ownBlock = some k ∨ R.vf.ownBlock = some k

theorem flat3 {α : Type} (f : α → List Value) (hf : ∀ a, (f a).length = 3) : ∀ (l : List α) (i j : Nat), j < 3 → (l.flatMap f)[i * 3 + j]? = (l[i]?).bind fun a => (f a)[j]?
  | [], i, j, _ => by simp
  | a :: l, 0, j, hj => by
    simp only [List.flatMap_cons, Nat.zero_mul, Nat.zero_add, List.getElem?_cons_zero, Option.bind_some]
    rw [List.getElem?_append_left (by rw [hf]; exact hj)]
  | a :: l, i + 1, j, hj => by
    simp only [List.flatMap_cons, List.getElem?_cons_succ]
    rw [List.getElem?_append_right (by rw [hf]; omega), hf, show (i + 1) * 3 + j - 3 = i * 3 + j by omega, flat3 f hf l i j hj]

/-- a row, opened -/
theorem row_open {w : World} {e : TypeId} {v : Value} {n : Nat} {xs : List Value} (h : w.ownsRow 0 e 3 v n xs) :
    ∃ (ao : Option Addr) (cap : Nat), v = .slice ao n cap ∧ n ≤ cap ∧ cap ≤ maxLen ∧ (0 < n → ∃ g cur, ao = some ⟨g, 0, none⟩ ∧ w.heap[g]? = some (.cells cur e (0, 0)) ∧ cur.size = cap * 3 ∧ cur.toList.take (n * 3) = xs) := by
  obtain ⟨hx, ⟨rfl, rfl⟩ | ⟨g, cap, cur, rfl, _, hg, h1, h2, h3, h4⟩⟩ := h
  · exact ⟨none, 0, rfl, Nat.le_refl _, by unfold maxLen; omega, fun h => absurd h (by omega)⟩
  · exact ⟨_, cap, rfl, h1, h2, fun _ => ⟨g, cur, rfl, hg, h3, h4⟩⟩

theorem row_cell {w : World} {e : TypeId} {g n : Nat} {cur : Array Value} {xs : List Value} (hg : w.heap[g]? = some (.cells cur e (0, 0))) (h4 : cur.toList.take (n * 3) = xs) {o : Nat} {v : Value} (hv : xs[o]? = some v) (ho : o < n * 3) :
    w.cell? ⟨g, o, none⟩ = some v ∧ w.frozen? ⟨g, o, none⟩ = false := by
  refine cells_of_block hg o v ?_
  rw [← h4, List.getElem?_take_of_lt ho] at hv
  simpa using hv

theorem run_sliceLen (P : Program) (w : World) (t e : TypeId) (ht : P.underlying t = some (.slice e)) (ao : Option Addr) (n cap : Nat) (R : TypeId) :
    (Builtin.len_ #[t] R #[.slice ao n cap]).run P w = .ok (.int .i64 n) w := by
  simp [Builtin.len_, run_underlying ht, Result.andThen, goInt, go_sem]

/-- where a key stands; -1: nowhere -/
def atI (l : List (GKey × Int)) (k : GKey) : Int := match l.findIdx? fun p => decide (k = p.1) with
  | some i => i
  | none => -1

theorem atI_here {l : List (GKey × Int)} {k : GKey} {j : Nat} (hj : j < l.length) (h : k = l[j].1) (hno : ∀ m (hm : m < l.length), m < j → ¬ k = l[m].1) : atI l k = j := by
  have : l.findIdx? (fun p => decide (k = p.1)) = some j := List.findIdx?_eq_some_iff_getElem.2 ⟨hj, by simpa using h, fun m hm => by simpa using hno m (by omega) hm⟩
  simp [atI, this]
theorem atI_none {l : List (GKey × Int)} {k : GKey} (hno : ∀ m (hm : m < l.length), ¬ k = l[m].1) : atI l k = -1 := by
  have : l.findIdx? (fun p => decide (k = p.1)) = none := List.findIdx?_eq_none_iff.2 fun x hx => by
    obtain ⟨m, hm, rfl⟩ := List.getElem_of_mem hx
    simpa using hno m hm
  simp [atI, this]

/-- the heap stands; draws -/
structure Still (w w' : World) : Prop where
  heap : w'.heap = w.heap
  b : Below w.heap.size w w'
theorem Still.refl (w : World) : Still w w := ⟨rfl, Below.refl _ _⟩
theorem Still.drew {w w' : World} (h : Still w w') : Still w w'.drew := ⟨h.heap, h.b.drew⟩
theorem Still.cell {w w' : World} (h : Still w w') (a : Addr) : w'.cell? a = w.cell? a := World.cell?_of_block (w := w) (by rw [h.heap])
theorem Still.frozen {w w' : World} (h : Still w w') (a : Addr) : w'.frozen? a = w.frozen? a := World.frozen?_of_block (w := w) (by rw [h.heap])

theorem keyEq (k k' : GKey) : (k.kind == k'.kind && k.name.toList == k'.name.toList) = decide (k = k') := by
  rw [Bool.eq_iff_iff]; simp [key_ext]

set_option maxRecDepth 100000 in
set_option maxHeartbeats 1000000 in
theorem at_any (R : RLoc) (r : RQ) (k : GKey) (w : World) (h : RAt w R r) :
    Calls Try.prog 47 #[.pointer (some ⟨R.rq, 0, none⟩), .agg #[.int .u8 k.kind, .string k.name]] w fun e w' => e = .returned (.int .i64 (atI r.l k)) ∧ Below w.heap.size w w' := by
  obtain ⟨hd, hl, _⟩ := h
  obtain ⟨ao, cap, hv, h1, h2, h3⟩ := row_open hl
  rw [hv] at hd
  have hlt := heap_lt hd
  have hd1 : (w.alloc (.cells #[.int .u8 k.kind, .string k.name] 28)).heap[R.rq]? = some (.cells #[.slice ao r.l.length cap, R.vf] 76) := (heap_alloc_lt hlt).trans hd
  have hb1 : (w.alloc (.cells #[.int .u8 k.kind, .string k.name] 28)).heap[w.heap.size]? = some (.cells #[.int .u8 k.kind, .string k.name] 28) := heap_alloc_eq
  have h4 : 0 < r.l.length → ∃ g cur, ao = some ⟨g, 0, none⟩ ∧ (w.alloc (.cells #[.int .u8 k.kind, .string k.name] 28)).heap[g]? = some (.cells cur 79 (0, 0)) ∧ cur.size = cap * 3 ∧ cur.toList.take (r.l.length * 3) = r.l.flatMap cellsI := by
    intro hn
    obtain ⟨g, cur, a, b, c, d⟩ := h3 hn
    exact ⟨g, cur, a, (heap_alloc_lt (heap_lt b)).trans b, c, d⟩
  have hB := (Below.refl w.heap.size w).alloc (Nat.le_refl _) (.cells #[.int .u8 k.kind, .string k.name] 28)
  have HB := Lib.hid hB
  have H4 := Lib.hid h4
  clear hd hlt hl h3 h4 hB hv
  generalize hl : r.l = l at *
  obtain ⟨c0, f0⟩ := cells_of_block hd1 0 _ rfl
  obtain ⟨b0, j0⟩ := cells_of_block hb1 0 _ rfl
  obtain ⟨b1, j1⟩ := cells_of_block hb1 1 _ rfl
  simp only [List.getElem_toArray, List.getElem_cons_zero, List.getElem_cons_succ] at c0 b0 b1
  have hcap : l.length ≤ maxLen := by omega
  unfold maxLen at hcap
  clear hd1 hb1
  go_enter Try.func47, Try.ntmps47
  go_wp2
  generalize hW0 : w.alloc (.cells #[.int .u8 k.kind, .string k.name] 28) = W0 at *
  clear hW0
  go_loopw [5] (fun i wr => ∃ j : Nat, j ≤ l.length ∧ i = .int .i64 j ∧ Hid (Still W0 wr) ∧ Hid (∀ m (hm : m < l.length), m < j → ¬ k = l[m].1)) (fun i _ => l.length - (intOf i).toNat)
  case atStart => exact ⟨0, Nat.zero_le _, rfl, Lib.hid (Still.refl _), Lib.hid (fun m hm h => absurd h (by omega))⟩
  case round =>
    obtain ⟨j, hj, rfl, hS, hno⟩ := hrel
    have c0' := (hS.out.cell ⟨R.rq, 0, none⟩).trans c0
    have b0' := (hS.out.cell ⟨w.heap.size, 0, none⟩).trans b0
    have b1' := (hS.out.cell ⟨w.heap.size, 1, none⟩).trans b1
    by_cases hjl : j < l.length
    · obtain ⟨g, cur, rfl, hg, hsz, htk⟩ := H4.out (by omega)
      have hx0 : (l.flatMap cellsI)[j * 3 + 0]? = some (.int .u8 l[j].1.kind) := by rw [flat3 _ (fun _ => rfl) _ _ _ (by omega)]; simp [hjl]
      have hx1 : (l.flatMap cellsI)[j * 3 + 1]? = some (.string l[j].1.name) := by rw [flat3 _ (fun _ => rfl) _ _ _ (by omega)]; simp [hjl]
      obtain ⟨x0, y0⟩ := row_cell hg htk hx0 (by omega)
      obtain ⟨x1, y1⟩ := row_cell hg htk hx1 (by omega)
      have x0' := (hS.out.cell ⟨g, j * 3 + 0, none⟩).trans x0
      have x1' := (hS.out.cell ⟨g, j * 3 + 1, none⟩).trans x1
      clear hx0 hx1 x0 x1 y0 y1 hg hsz htk
      simp only [Nat.add_zero] at x0'
      by_cases hk : k = l[j].1
      · have p1 : l[j].1.kind = k.kind := by rw [← hk]
        have p2 : l[j].1.name.toList = k.name.toList := by rw [← hk]
        have HE := Lib.hid hk
        clear hk
        go_wp2
        go_still (by kernel_rfl)
        go_wp2
        go_ret
        refine ⟨ret_int ?_, ((HB.out).trans (hS.out.b.mono HB.out.size)).drew⟩
        exact (atI_here hjl HE.out hno.out).symm
      · have hno2 : ∀ m (hm : m < l.length), m < j + 1 → ¬ k = l[m].1 := by
          intro m hm hlt
          by_cases hmj : m = j
          · subst hmj; exact hk
          · exact hno.out m hm (by omega)
        have HNO := Lib.hid hno2
        have hcase : ¬ l[j].1.kind = k.kind ∨ (l[j].1.kind = k.kind ∧ ¬ l[j].1.name.toList = k.name.toList) := by
          by_cases p1 : l[j].1.kind = k.kind
          · right; exact ⟨p1, fun p2 => hk (key_ext.2 ⟨p1.symm, p2.symm⟩)⟩
          · left; exact p1
        clear hk hno2 hno
        rcases hcase with p1 | ⟨p1, p2⟩
        · go_wp2
          go_still (by kernel_rfl)
          go_wp2
          go_roundw
          case rel => exact ⟨j + 1, by omega, by simp, Lib.hid hS.out.drew, HNO⟩
          case measure => simp [intOf]; omega
        · go_wp2
          go_still (by kernel_rfl)
          go_wp2
          go_roundw
          case rel => exact ⟨j + 1, by omega, by simp, Lib.hid hS.out.drew, HNO⟩
          case measure => simp [intOf]; omega
    · have hjl2 : ¬ (j : Int) < l.length := by omega
      have HN := Lib.hid (atI_none (l := l) (k := k) fun m hm => hno.out m hm (by omega))
      clear H4
      go_wp2
      go_ret
      refine ⟨ret_int ?_, (HB.out).trans (hS.out.b.mono HB.out.size)⟩
      exact HN.out.symm
end Go.Proofs.Ytemeedfldapcjaa
