/- Rows of bytes that a call has made; blocks of the heap behind what a walk does. -/
import Derived.Test.YtobpohjhhelljaaPure
import Derived.Test.YtobpohjhhelljaaO3
import Derived.Test.YtobpohjhhelljaaReg
import Derived.Test.YtobpohjhhelljaaTree
import Derived.Test.YtobpohjhhelljaaLaw
import Derived.WalkKit
import Derived.WalkLawsBesides
import Derived.Below
import Derived.LoopTactic
import Derived.Lib.Hide
import Derived.OwnWalk
import Derived.ArgAppend
import Derived.Laws.AppendOwn
import Derived.Laws.AppendOwnNone
import Derived.Laws.MakeOwn
import Derived.Laws.OwnMore
import Derived.Laws.BytesString
import Derived.Laws.Bits64
import Derived.Laws.BitsAllLaws
import Derived.Lib.AppendStr
import Derived.IntWalk
namespace Go.Proofs.Ytobpohjhhelljaa
open Go.RowKit
set_option linter.unusedVariables false
set_option linter.unusedSimpArgs false


theorem heap_drew (w : World) : w.drew.heap = w.heap := rfl
theorem heap_setCell_ne {w : World} {a : Addr} {v : Value} {b : Nat} (h : b ≠ a.block) : (w.setCell a v).heap[b]? = w.heap[b]? := Below.heap_setCell w a v b h
theorem heap_setCell_same {w : World} {b o : Nat} {v : Value} {cs : Array Value} {t : TypeId} {fr : Nat × Nat} (h : w.heap[b]? = some (.cells cs t fr)) :
    (w.setCell ⟨b, o, none⟩ v).heap[b]? = some (.cells (cs.setIfInBounds o v) t fr) := by
  simp [World.setCell, Array.getElem?_modify, h]
theorem Wset_size {w : World} {b : Nat} {o : Go.Obj} : (Wset w b o).heap.size = w.heap.size := by simp [Wset]
theorem Wset_cell {w : World} {b : Nat} {o : Go.Obj} {a : Addr} (h : a.block ≠ b) : (Wset w b o).cell? a = w.cell? a := World.cell?_of_block (w := w) (Wset_ne h)
theorem Wset_frozen {w : World} {b : Nat} {o : Go.Obj} {a : Addr} (h : a.block ≠ b) : (Wset w b o).frozen? a = w.frozen? a := World.frozen?_of_block (w := w) (Wset_ne h)
/-- all but some blocks stays; nothing goes -/
structure Keeps (F : Nat → Prop) (w w' : World) : Prop where
  os : w'.os = w.os
  tape : w'.tape = w.tape
  output : w'.output = w.output
  size : w.heap.size ≤ w'.heap.size
  block : ∀ k, k < w.heap.size → ¬ F k → w'.heap[k]? = w.heap[k]?
theorem Keeps.refl (F : Nat → Prop) (w : World) : Keeps F w w := ⟨rfl, rfl, rfl, Nat.le_refl _, fun _ _ _ => rfl⟩
theorem Keeps.trans {F : Nat → Prop} {a b c : World} (h : Keeps F a b) (k : Keeps F b c) : Keeps F a c :=
  ⟨k.os.trans h.os, k.tape.trans h.tape, k.output.trans h.output, Nat.le_trans h.size k.size, fun i hi hf => (k.block i (Nat.lt_of_lt_of_le hi h.size) hf).trans (h.block i hi hf)⟩
/-- one step more, that may write what is new -/
theorem Keeps.step {F : Nat → Prop} {a b c : World} (h : Keeps F a b) {G : Nat → Prop} (k : Keeps G b c) (hG : ∀ i, i < a.heap.size → ¬ F i → ¬ G i) : Keeps F a c :=
  ⟨k.os.trans h.os, k.tape.trans h.tape, k.output.trans h.output, Nat.le_trans h.size k.size, fun i hi hf => (k.block i (Nat.lt_of_lt_of_le hi h.size) (hG i hi hf)).trans (h.block i hi hf)⟩
theorem Keeps.mono {F G : Nat → Prop} {a b : World} (h : Keeps F a b) (hG : ∀ i, i < a.heap.size → F i → G i) : Keeps G a b :=
  ⟨h.os, h.tape, h.output, h.size, fun i hi hf => h.block i hi (fun hx => hf (hG i hi hx))⟩
theorem Keeps.drew {F : Nat → Prop} {a w : World} (h : Keeps F a w) : Keeps F a w.drew := ⟨h.os, h.tape, h.output, h.size, h.block⟩
theorem Keeps.alloc {F : Nat → Prop} {a w : World} (h : Keeps F a w) (o : Go.Obj) : Keeps F a (w.alloc o) :=
  h.trans ⟨rfl, rfl, rfl, by simp, fun k hk _ => Below.heap_alloc _ _ _ hk⟩
theorem Keeps.setCell {F : Nat → Prop} {a w : World} (h : Keeps F a w) {p : Addr} (hp : p.block < a.heap.size → F p.block) (u : Value) : Keeps F a (w.setCell p u) :=
  h.step (G := fun i => i = p.block) ⟨rfl, rfl, rfl, by simp [World.setCell], fun k _ hf => Below.heap_setCell _ _ _ _ hf⟩ (fun i hi hf e => hf (e ▸ hp (e ▸ hi)))
theorem Keeps.wset {F : Nat → Prop} {a w : World} (h : Keeps F a w) {b : Nat} (hp : b < a.heap.size → F b) (o : Go.Obj) : Keeps F a (Wset w b o) :=
  h.step (G := fun i => i = b) ⟨rfl, rfl, rfl, by simp [Wset], fun k _ hf => Wset_ne hf⟩ (fun i hi hf e => hf (e ▸ hp (e ▸ hi)))
theorem Keeps.below {F : Nat → Prop} {a w : World} (h : Keeps F a w) (hF : ∀ i, i < a.heap.size → ¬ F i) : Below a.heap.size a w :=
  ⟨h.os, h.tape, h.output, h.size, fun k hk => h.block k hk (hF k hk)⟩
theorem Keeps.of_below {F : Nat → Prop} {a w : World} (h : Below a.heap.size a w) : Keeps F a w :=
  ⟨h.os, h.tape, h.output, h.size, fun k hk _ => h.block k hk⟩
theorem load_cells_at {P : Program} {b o : Nat} {cs : Array Value} {w : World} (h : ∀ k, k < cs.size → w.cell? ⟨b, o + k, none⟩ = cs[k]?) :
    ∀ (n i : Nat) (acc : Array Value), i + n = cs.size → acc = cs.extract 0 i → (loadCellsFrom ⟨b, o, none⟩ i n acc).run P w = .ok cs w
  | 0, i, acc, hi, ha => by
    have : i = cs.size := by omega
    subst this; subst ha
    simp [loadCellsFrom]
  | n + 1, i, acc, hi, ha => by
    have hlt : i < cs.size := by omega
    have hc := h i hlt
    rw [Array.getElem?_eq_getElem hlt] at hc
    simp only [loadCellsFrom, Sem.run_bind, load, Addr.add_lit, Sem.run, hc, Result.andThen]
    refine load_cells_at h n (i + 1) _ (by omega) ?_
    subst ha
    simp [hlt]
theorem grownBy_keeps' {w w' : World} {row : Option Nat} (h : w.grownBy w' row) : Keeps (fun i => some i = row) w w' := ⟨h.os, h.tape, h.output, h.size, fun k hk hf => h.block k hk hf⟩
theorem ownsRow_of_heap {w w' : World} {B : Nat} {e : TypeId} {s : Nat} {v : Value} {n : Nat} {xs : List Value} (h : w.ownsRow B e s v n xs) (hk : ∀ k, v.ownBlock = some k → w'.heap[k]? = w.heap[k]?) : w'.ownsRow B e s v n xs := by
  obtain ⟨h1, h2 | ⟨g, cap, cur, rfl, e2, e3, e4⟩⟩ := h
  · exact ⟨h1, .inl h2⟩
  · exact ⟨h1, .inr ⟨g, cap, cur, rfl, e2, (hk g rfl).trans e3, e4⟩⟩
theorem ownsRow_mono {w : World} {B B' : Nat} {e : TypeId} {s : Nat} {v : Value} {n : Nat} {xs : List Value} (h : w.ownsRow B e s v n xs) (hB : B' ≤ B) : w.ownsRow B' e s v n xs := by
  obtain ⟨h1, h2 | ⟨g, cap, cur, e1, e2, e3⟩⟩ := h
  · exact ⟨h1, .inl h2⟩
  · exact ⟨h1, .inr ⟨g, cap, cur, e1, by omega, e3⟩⟩
/-- bytes at an address -/
def RdAt (w : World) (a : Option Addr) (l : Bs) : Prop := l = [] ∨ ∃ b o, a = some ⟨b, o, none⟩ ∧ ∀ k (hk : k < l.length), w.cell? ⟨b, o + k, none⟩ = some (.int .u8 (l[k].toNat : Int))
abbrev cellU (c : UInt8) : Value := .int .u8 (c.toNat : Int)
def cellsU (l : Bs) : List Value := l.map cellU
@[simp] theorem cellsU_length (l : Bs) : (cellsU l).length = l.length := by simp [cellsU]
theorem cellsU_append (a b : Bs) : cellsU (a ++ b) = cellsU a ++ cellsU b := by simp [cellsU]
theorem cellsU_get (l : Bs) (k : Nat) (h : k < l.length) : (cellsU l)[k]? = some (.int .u8 (l[k].toNat : Int)) := by simp [cellsU, h]
theorem cellsU_one (l : Bs) : ∀ u ∈ cellsU l, u.oneCell' = true := by
  intro u hu
  obtain ⟨c, _, rfl⟩ := List.mem_map.1 hu
  rfl
/-- a slice that reads as bytes -/
def IsB (w : World) (v : Value) (l : Bs) : Prop := (v = .slice none 0 0 ∧ l = []) ∨ ∃ b o c, v = .slice (some ⟨b, o, none⟩) l.length c ∧ l.length ≤ c ∧ c ≤ maxLen ∧ ∀ k (hk : k < l.length), w.cell? ⟨b, o + k, none⟩ = some (.int .u8 (l[k].toNat : Int))
theorem IsB.rd {w : World} {v : Value} {l : Bs} (h : IsB w v l) : ∃ a c, v = .slice a l.length c ∧ RdAt w a l := by
  rcases h with ⟨rfl, rfl⟩ | ⟨b, o, c, rfl, _, _, h⟩
  · exact ⟨none, 0, rfl, .inl rfl⟩
  · exact ⟨_, _, rfl, .inr ⟨b, o, rfl, h⟩⟩
theorem IsB.below {w w' : World} {v : Value} {l : Bs} (h : IsB w v l) (hb : Below w.heap.size w w') : IsB w' v l := by
  rcases h with h | ⟨b, o, c, hv, h1, h2, h⟩
  · exact .inl h
  · refine .inr ⟨b, o, c, hv, h1, h2, fun k hk => (hb.cell (p := ⟨b, o + k, none⟩) (World.block_lt_of_cell? w _ (h k hk))).trans (h k hk)⟩
/-- a row of bytes that lies from block B on, the call's own -/
abbrev OwnB (w : World) (B : Nat) (v : Value) (l : Bs) : Prop := w.ownsRow B 5 1 v l.length (cellsU l)
theorem OwnB.isB {w : World} {B : Nat} {v : Value} {l : Bs} (h : OwnB w B v l) : IsB w v l := by
  have h' := h
  obtain ⟨_, ⟨rfl, h0⟩ | ⟨g, cap, cur, rfl, _, _, h1, h2, _, _⟩⟩ := h
  · exact .inl ⟨rfl, List.eq_nil_of_length_eq_zero h0⟩
  · refine .inr ⟨g, 0, cap, rfl, h1, h2, fun k hk => ?_⟩
    rw [Nat.zero_add, World.ownsRow.cellAt h' k (by omega), cellsU_get l k hk]
theorem OwnB.mono {w : World} {B B' : Nat} {v : Value} {n : Nat} {xs : List Value} (h : w.ownsRow B 5 1 v n xs) (hB : B' ≤ B) : w.ownsRow B' 5 1 v n xs := by
  obtain ⟨h1, h2 | ⟨g, cap, cur, e1, e2, e3⟩⟩ := h
  · exact ⟨h1, .inl h2⟩
  · exact ⟨h1, .inr ⟨g, cap, cur, e1, by omega, e3⟩⟩
theorem und_B : Try.prog.underlying 41 = some (.slice 5) := by kernel_rfl
theorem info_b : (Try.prog.info? 5).map (fun i => (i.zero, i.size, i.bytes)) = some (some (.int .u8 0), 1, 1) := by kernel_rfl
theorem run_app_bytes {w : World} {B : Nat} {v x : Value} {xs l : Bs} (ty : TypeId) (hown : OwnB w B v xs) (hx : IsB w x l) (hlim : xs.length + l.length ≤ 140737488355328) (hB : B ≤ w.heap.size) :
    ∃ v' w', (Builtin.append_ #[41, 41] ty #[v, x]).run Try.prog w = .ok v' w' ∧ OwnB w' B v' (xs ++ l) ∧ w.grownBy w' v.ownBlock := by
  obtain ⟨i0, hi, hz0, hz1, hz2⟩ := info_parts info_b
  rcases hx with ⟨rfl, rfl⟩ | ⟨b, o, c, rfl, h1, h2, h⟩
  · exact ⟨v, w, run_append_owned_none w B _ ty _ i0 1 und_B hi v _ _ hown, by simpa using hown, ⟨rfl, rfl, rfl, Nat.le_refl _, fun _ _ _ => rfl⟩⟩
  · obtain ⟨v', w', h3, h4, h5, _⟩ := run_append_own (w := w) B 41 ty 5 i0 (.int .u8 0) 1 1 und_B hi hz0 hz1 hz2 rfl (by decide) v _ _ hown ⟨b, o, none⟩ l.length c (cellsU l) (by simp)
      (fun j u hu => by
        have hj : j < l.length := by
          have := (List.getElem?_eq_some_iff.1 hu).1; simpa using this
        rw [cellsU_get l j hj] at hu
        cases hu
        rw [Addr.add_lit]; exact h j hj) (cellsU_one l) (by unfold maxLen; omega) (by omega) hB
    exact ⟨v', w', h3, by rw [OwnB, List.length_append, cellsU_append]; exact h4, h5⟩
theorem wpList_app_bytes {ops : Array Oper} {rest : List Oper} {o : Oper} {a : Act} {w : World} {Q : Exit → Act → World → Prop} (hgd : o.guard = none) (s x : Operand)
    (ho : o.op = .call { callee := .builtin .append, args := #[s, x], argTypes := #[41, 41] }) (B : Nat) (v : Value) (xs : Bs) (hs : a.eval s = v) (hown : OwnB w B v xs) (y : Value) (l : Bs) (hx : a.eval x = y) (hy : IsB w y l)
    (hlim : xs.length + l.length ≤ 140737488355328) (hB : B ≤ w.heap.size) (h : ∀ v' w', OwnB w' B v' (xs ++ l) → w.grownBy w' v.ownBlock → wpList Try.prog ops Q rest (a.put o.dst v') w') : wpList Try.prog ops Q (o :: rest) a w := by
  refine wpList_plain hgd fun K hK => ?_
  obtain ⟨v', w', hr, h1, h2⟩ := run_app_bytes o.type hown hy hlim hB
  unfold Oper.wp
  simp [execOp, ho, resolve, invoke, builtin, hs, hx, hr, Result.andThen]
  exact hK _ _ (h v' w' h1 h2)
theorem cell_alloc_list {w : World} {cs : Array Value} {t : TypeId} {l : List Value} (h : cs.toList = l) : ∀ j u, l[j]? = some u → (w.alloc (.cells cs t)).cell? ((⟨w.heap.size, 0, none⟩ : Addr).add j) = some u := by
  intro j u hu
  subst h
  rw [Addr.add_lit, Nat.zero_add]
  have e : (w.alloc (.cells cs t)).heap[w.heap.size]? = some (.cells cs t) := by show (w.heap.push _)[w.heap.size]? = _; simp
  simp only [World.cell?, e]
  simpa using hu
def lenV : Value → Nat
  | .slice _ n _ => n
  | _ => 0
theorem OwnB.lv {w : World} {B : Nat} {v : Value} {l : Bs} (h : OwnB w B v l) : ∃ a c, v = .slice a l.length c := by
  obtain ⟨_, ⟨rfl, h0⟩ | ⟨g, c, _, rfl, _⟩⟩ := h
  · exact ⟨none, 0, by rw [h0]⟩
  · exact ⟨_, _, rfl⟩
theorem OwnB.lit {w : World} {B : Nat} (cs : Bs) (hB : B ≤ w.heap.size) (hm : cs.length ≤ 1000000) (arr : Array Value) (ha : arr.toList = cellsU cs) : OwnB (w.alloc (.cells arr 5)) B (.slice (some ⟨w.heap.size, 0, none⟩) cs.length cs.length) cs := by
  have h := World.ownsRow_lit (e := 5) (size := 1) w arr cs.length hB (by unfold maxLen; omega) (by rw [← Array.length_toList, ha]; simp)
  rw [ha] at h
  exact h
theorem und_b : Try.prog.underlying 5 = some (.int .u8) := by kernel_rfl
theorem und_str : Try.prog.underlying 9 = some .string := by kernel_rfl
theorem foldl_push (l : Bs) : ∀ s : ByteArray, (l.map fun c => ((c.toNat : Nat) : Int)).foldl (fun r n => r.push (UInt8.ofNat n.toNat)) s = ⟨s.data ++ l.toArray⟩ := by
  induction l with
  | nil => intro s; simp
  | cons c l ih =>
    intro s
    simp only [List.map_cons, List.foldl_cons, Int.toNat_natCast]
    rw [ih]
    simp [ByteArray.push]
theorem run_text {w : World} {v : Value} {l : Bs} (h : IsB w v l) : (convert 41 9 v).run Try.prog w = .ok (.string ⟨l.toArray⟩) w := by
  rcases h with ⟨rfl, rfl⟩ | ⟨b, o, c, rfl, _, _, h⟩
  · rw [run_convert_bytes_string w 41 9 5 none 0 0 und_B und_b und_str]
    rfl
  · rw [run_convert_bytes_string w 41 9 5 (some ⟨b, o, none⟩) l.length c und_B und_b und_str]
    have hl := run_loadCells_list (P := Try.prog) w ⟨b, o, none⟩ (cellsU l) (fun j u hu => by
      have hj : j < l.length := by have := (List.getElem?_eq_some_iff.1 hu).1; simpa using this
      rw [cellsU_get l j hj] at hu
      cases hu
      rw [Addr.add_lit]; exact h j hj)
    rw [cellsU_length] at hl
    have := run_bytesToString (P := Try.prog) w ⟨b, o, none⟩ l.length c (l.map fun c => ((c.toNat : Nat) : Int)) (by rw [hl]; simp [cellsU])
    rw [this, foldl_push]
    simp
/-! ### texts behind bytes -/
theorem strCells_eq (s : ByteArray) : Lib.strCells s = cellsU s.data.toList := rfl
theorem data_length (s : ByteArray) : s.data.toList.length = s.size := by simp
theorem wpList_app_text {ops : Array Oper} {rest : List Oper} {o : Oper} {a : Act} {w : World} {Q : Exit → Act → World → Prop} (hgd : o.guard = none) (s x : Operand)
    (ho : o.op = .call { callee := .builtin .append, args := #[s, x], argTypes := #[41, 9] }) (B : Nat) (v : Value) (xs : Bs) (hs : a.eval s = v) (hown : OwnB w B v xs) (t : ByteArray) (hx : a.eval x = .string t)
    (hlim : xs.length + t.size ≤ 140737488355328) (hB : B ≤ w.heap.size) (h : ∀ v' w', OwnB w' B v' (xs ++ t.data.toList) → w.grownBy w' v.ownBlock → wpList Try.prog ops Q rest (a.put o.dst v') w') : wpList Try.prog ops Q (o :: rest) a w := by
  obtain ⟨i0, hi, hz0, hz1, hz2⟩ := info_parts info_b
  refine Lib.wpList_append_own_string w hgd s x 41 9 ho B 5 i0 und_B und_str hi hz0 hz1 hz2 v xs.length (cellsU xs) hs hown t hx (by unfold maxLen; omega) hlim hB fun v' w' h1 h2 _ => h v' w' ?_ h2
  rw [OwnB, List.length_append, cellsU_append, data_length]
  exact h1

/-! ### which blocks hold bytes -/
def IsTb (w : World) (i : Nat) : Prop := ∃ cs fr, w.heap[i]? = some (.cells cs 5 fr)
theorem OwnB.tb {w : World} {B : Nat} {v : Value} {l : Bs} (h : OwnB w B v l) {k : Nat} (hk : v.ownBlock = some k) : B ≤ k ∧ k < w.heap.size ∧ IsTb w k := by
  refine ⟨(h.lt k hk).1, (h.lt k hk).2, ?_⟩
  obtain ⟨_, ⟨rfl, _⟩ | ⟨g, cap, cur, rfl, _, hg, _⟩⟩ := h
  · simp [Value.ownBlock] at hk
  · simp [Value.ownBlock] at hk
    subst hk
    exact ⟨_, _, hg⟩
theorem OwnB.kept {w w' : World} {B : Nat} {v : Value} {l : Bs} (h : OwnB w B v l) (hk : ∀ k, v.ownBlock = some k → w'.heap[k]? = w.heap[k]?) : OwnB w' B v l := ownsRow_of_heap h hk
/-- all stays but block p and rows of bytes -/
abbrev KeepsB (p : Nat) (w w' : World) : Prop := Keeps (fun i => i = p ∨ IsTb w i) w w'
theorem KeepsB.trans {p : Nat} {a b c : World} (h : KeepsB p a b) (k : KeepsB p b c) : KeepsB p a c :=
  Keeps.step h k fun i hi hf hg => hf (by
    rcases hg with rfl | ⟨cs, fr, hg⟩
    · exact .inl rfl
    · by_cases hp : i = p
      · exact .inl hp
      · refine .inr (Classical.byContradiction fun hn => hn ⟨cs, fr, ?_⟩)
        rw [← h.block i hi (fun hx => hx.elim hp hn)]; exact hg)

theorem KeepsB.refl (p : Nat) (w : World) : KeepsB p w w := Keeps.refl _ w
theorem KeepsB.of_grown {p : Nat} {w w' : World} {B : Nat} {v : Value} {l : Bs} (h : OwnB w B v l) (hg : w.grownBy w' v.ownBlock) : KeepsB p w w' :=
  (grownBy_keeps' hg).mono fun i _ hi => .inr (h.tb hi.symm).2.2
theorem KeepsB.block {p : Nat} {w w' : World} (h : KeepsB p w w') {b : Nat} {cs : Array Value} {t : TypeId} {fr : Nat × Nat} (hb : w.heap[b]? = some (.cells cs t fr)) (hp : b ≠ p) (ht : t ≠ 5) : w'.heap[b]? = some (.cells cs t fr) := by
  rw [Keeps.block h b (heap_lt hb) ?_]
  · exact hb
  · rintro (e | ⟨cs', fr', h'⟩)
    · exact hp e
    · rw [hb] at h'
      simp at h'
      exact ht h'.2.1

end Go.Proofs.Ytobpohjhhelljaa
