/- A part of the walks: contracts of functions. -/
import Derived.Test.YtemeedfldapcjaaR3
namespace Go.Proofs.Ytemeedfldapcjaa
open Go.RowKit
set_option linter.unusedVariables false
set_option linter.unusedSimpArgs false
theorem flat_len {α : Type} (f : α → List Value) (hf : ∀ a, (f a).length = 3) : ∀ (l : List α), (l.flatMap f).length = l.length * 3
  | [] => rfl
  | a :: l => by simp only [List.flatMap_cons, List.length_append, hf, flat_len f hf l, List.length_cons]; omega
/-- one entry's third cell -/
theorem flat_set {α : Type} (f : α → List Value) (hf : ∀ a, (f a).length = 3) (l : List α) (i : Nat) (hi : i < l.length) (p : α) (v : Value) (h0 : (f p)[0]? = (f l[i])[0]?) (h1 : (f p)[1]? = (f l[i])[1]?) (h2 : (f p)[2]? = some v) :
    (l.set i p).flatMap f = (l.flatMap f).set (i * 3 + 2) v := by
  apply List.ext_getElem?
  intro o
  have e : o = o / 3 * 3 + o % 3 := by omega
  have hm : o % 3 < 3 := Nat.mod_lt _ (by omega)
  rw [e, flat3 f hf _ _ _ hm, List.getElem?_set, List.getElem?_set]
  by_cases hio : i = o / 3
  · subst hio
    by_cases h : o % 3 = 2
    · rw [if_pos rfl, if_pos hi, if_pos (by omega), if_pos (by rw [flat_len f hf]; omega)]
      simp [h, h2]
    · rw [if_pos rfl, if_pos hi, if_neg (by omega), flat3 f hf _ _ _ hm, List.getElem?_eq_getElem hi]
      simp only [Option.bind_some]
      have : o % 3 = 0 ∨ o % 3 = 1 := by omega
      rcases this with h | h
      · rw [h, h0]
      · rw [h, h1]
  · rw [if_neg hio, if_neg (by omega), flat3 f hf _ _ _ hm]

theorem row_set {w : World} {e : TypeId} {v : Value} {n : Nat} {xs : List Value} (h : w.ownsRow 0 e 3 v n xs) {g cap : Nat} (hv : v = .slice (some ⟨g, 0, none⟩) n cap) {o : Nat} (ho : o < n * 3) (u : Value) :
    (w.setCell ⟨g, o, none⟩ u).ownsRow 0 e 3 v n (xs.set o u) := by
  obtain ⟨hx, ⟨hv', _⟩ | ⟨g', cap', cur, hv', hb, hg, h1, h2, h3, h4⟩⟩ := h
  · rw [hv] at hv'; cases hv'
  · rw [hv] at hv'
    obtain ⟨rfl, rfl⟩ : g = g' ∧ cap = cap' := by simpa using hv'
    refine ⟨by simpa using hx, .inr ⟨g, cap, cur.setIfInBounds o u, hv, hb, heap_setCell_same hg, h1, h2, by simpa using h3, ?_⟩⟩
    rw [Array.toList_setIfInBounds, List.take_set, h4]

/-- what is new, or was mine -/
structure RLoc.Next (R R' : RLoc) (w : World) : Prop where
  rq : R'.rq = R.rq
  own : ∀ k, R'.mine k → R.mine k ∨ w.heap.size ≤ k
theorem RLoc.Next.refl (R : RLoc) (w : World) : R.Next R w := ⟨rfl, fun _ h => .inl h⟩
theorem RLoc.Next.trans {R R' R'' : RLoc} {w w' : World} (h : R.Next R' w) (h' : R'.Next R'' w') (hs : w.heap.size ≤ w'.heap.size) : R.Next R'' w :=
  ⟨h'.rq.trans h.rq, fun k hk => by
    rcases h'.own k hk with h1 | h1
    · exact h.own k h1
    · exact .inr (Nat.le_trans hs h1)⟩

theorem row_keep {w w' : World} {e : TypeId} {v : Value} {n : Nat} {xs : List Value} (h : w.ownsRow 0 e 3 v n xs) (hk : ∀ k, v.ownBlock = some k → w'.heap[k]? = w.heap[k]?) : w'.ownsRow 0 e 3 v n xs := by
  obtain ⟨hx, h | ⟨g, cap, cur, hv, hb, hg, h1⟩⟩ := h
  · exact ⟨hx, .inl h⟩
  · exact ⟨hx, .inr ⟨g, cap, cur, hv, hb, (hk g (by rw [hv]; rfl)).trans hg, h1⟩⟩
theorem row_base {w : World} {e : TypeId} {v : Value} {n : Nat} {xs : List Value} {b : Nat} (h : w.ownsRow b e 3 v n xs) : w.ownsRow 0 e 3 v n xs := by
  obtain ⟨hx, h | ⟨g, cap, cur, hv, hb, hg, h1⟩⟩ := h
  · exact ⟨hx, .inl h⟩
  · exact ⟨hx, .inr ⟨g, cap, cur, hv, Nat.zero_le _, hg, h1⟩⟩
theorem row_block {w : World} {e : TypeId} {v : Value} {n : Nat} {xs : List Value} (h : w.ownsRow 0 e 3 v n xs) {k : Nat} (hk : v.ownBlock = some k) : ∃ cur, w.heap[k]? = some (.cells cur e (0, 0)) := by
  obtain ⟨hx, ⟨rfl, _⟩ | ⟨g, cap, cur, hv, hb, hg, h1⟩⟩ := h
  · cases hk
  · rw [hv] at hk
    obtain rfl : g = k := by simpa [Value.ownBlock] using hk
    exact ⟨cur, hg⟩

theorem RAt.keep {w w' : World} {R : RLoc} {r : RQ} (h : RAt w R r) {F : Nat → Prop} (hk : Keeps F w w') (hF : ∀ k, R.mine k → ¬ F k) : RAt w' R r := by
  obtain ⟨a, b, c⟩ := h
  refine ⟨(hk.block _ (heap_lt a) (hF _ (.inl rfl))).trans a, row_keep b fun k e => ?_, row_keep c fun k e => ?_⟩
  · obtain ⟨cur, hg⟩ := row_block b e
    exact hk.block _ (heap_lt hg) (hF _ (.inr (.inl e)))
  · obtain ⟨cur, hg⟩ := row_block c e
    exact hk.block _ (heap_lt hg) (hF _ (.inr (.inr e)))
theorem RAt.lt {w : World} {R : RLoc} {r : RQ} (h : RAt w R r) : ∀ k, R.mine k → k < w.heap.size := by
  rintro k (rfl | e | e)
  · exact heap_lt h.hd
  · obtain ⟨cur, hg⟩ := row_block h.hl e; exact heap_lt hg
  · obtain ⟨cur, hg⟩ := row_block h.hf e; exact heap_lt hg
theorem RAt.apart {w : World} {R : RLoc} {r : RQ} (h : RAt w R r) : (∀ k, R.vl.ownBlock = some k → k ≠ R.rq ∧ R.vf.ownBlock ≠ some k) ∧ (∀ k, R.vf.ownBlock = some k → k ≠ R.rq ∧ R.vl.ownBlock ≠ some k) := by
  have h1 := h.hd
  refine ⟨fun k e => ?_, fun k e => ?_⟩
  · obtain ⟨cur, hg⟩ := row_block h.hl e
    refine ⟨fun e2 => ?_, fun e2 => ?_⟩
    · subst e2; rw [h1] at hg; cases hg
    · obtain ⟨cur', hg'⟩ := row_block h.hf e2; rw [hg] at hg'; cases hg'
  · obtain ⟨cur, hg⟩ := row_block h.hf e
    refine ⟨fun e2 => ?_, fun e2 => ?_⟩
    · subst e2; rw [h1] at hg; cases hg
    · obtain ⟨cur', hg'⟩ := row_block h.hl e2; rw [hg] at hg'; cases hg'

theorem delayR_any (n : Int) (w : World) (h1 : 1 ≤ n) (h2 : n ≤ 40) : Calls Try.prog 26 #[.int .i64 n] w fun e w' => e = .returned (.int .u64 (delayB n)) ∧ w = w' := by
  go_enter Try.func26, Try.ntmps26
  go_wp2
  go_loop [3, 4] (fun d i => ∃ m : Nat, m ≤ 6 ∧ (m : Int) + 1 ≤ n ∧ d = .int .u64 (2 ^ m) ∧ i = .int .i64 (m + 1)) (fun _ i => 64 - (intOf i).toNat)
  case atStart => exact ⟨0, by omega, by omega, rfl, rfl⟩
  case round =>
    obtain ⟨m, hm, hn, rfl, rfl⟩ := hrel
    by_cases hc : (m : Int) + 1 < n
    · by_cases h6 : m = 6
      · subst h6
        go_wp2
        go_ret
        exact ⟨ret_int (by unfold delayB; rw [if_neg (by omega), show (min (n - 1) 6).toNat = 6 by omega]; rfl), rfl⟩
      · have hlt : (2 : Int) ^ m < 64 := by
          have : ∀ j : Fin 6, (2 : Int) ^ (j : Nat) < 64 := by decide
          exact this ⟨m, by omega⟩
        have hw : IntKind.u64.wrap (2 ^ m * 2) = 2 ^ (m + 1) := by
          have : ∀ j : Fin 6, IntKind.u64.wrap (2 ^ (j : Nat) * 2) = 2 ^ ((j : Nat) + 1) := by decide
          exact this ⟨m, by omega⟩
        go_wp2
        go_round
        case rel => exact ⟨m + 1, by omega, by omega, by simp [hw], by simp⟩
        case measure => simp [intOf]; omega
    · go_wp2
      go_ret
      exact ⟨ret_int (by unfold delayB; rw [if_neg (by omega), show (min (n - 1) 6).toNat = m by omega]), rfl⟩

theorem dueR_any (R : RLoc) (r : RQ) (k : GKey) (w : World) (h : RAt w R r) :
    Calls Try.prog 36 #[.pointer (some ⟨R.rq, 0, none⟩), .agg #[.int .u8 k.kind, .string k.name]] w fun e w' => e = .returned (.tuple #[.int .u64 ((assoc r.l k).getD 0), .bool (assoc r.l k).isSome]) ∧ Below w.heap.size w w' := by
  have h' := h.keep ((Keeps.refl (fun _ => False) w).alloc (.cells #[.int .u8 k.kind, .string k.name] 28)) (by simp)
  have H := at_any R r k _ h'
  obtain ⟨hd, hl, _⟩ := h'
  obtain ⟨ao, cap, hv, h1, h2, h3⟩ := row_open hl
  rw [hv] at hd
  have H3 := Lib.hid h3
  have Hd := Lib.hid hd
  clear h3 hl hv hd h
  generalize hl : r.l = l at *
  have hB0 := Lib.hid ((Below.refl w.heap.size w).alloc (Nat.le_refl _) (.cells #[.int .u8 k.kind, .string k.name] 28))
  have hsz : w.heap.size ≤ (w.alloc (.cells #[.int .u8 k.kind, .string k.name] 28)).heap.size := by simp
  have HSZ := Lib.hid hsz
  clear hsz
  cases hf : l.findIdx? (fun p => decide (k = p.1)) with
  | none =>
    have e1 : atI l k = -1 := by simp [atI, hf]
    have e2 : assoc l k = none := by simp [assoc_eq, hf]
    rw [e1] at H
    rw [e2]
    go_enter Try.func36, Try.ntmps36
    go_wp2_with fail
    refine H.mono ?_
    rintro e w1 ⟨rfl, hb⟩
    have HB := Lib.hid ((hB0.out).trans (hb.mono HSZ.out))
    clear hb
    go_wp2
    go_ret2
    exact ⟨rfl, HB.out⟩
  | some i =>
    have e1 : atI l k = i := by simp [atI, hf]
    have hi : i < l.length := (List.findIdx?_eq_some_iff_findIdx_eq.1 hf).1
    have e2 : assoc l k = some l[i].2 := by simp [assoc_eq, hf, hi]
    rw [e1] at H
    rw [e2]
    obtain ⟨g, cur, rfl, hg, hsz, htk⟩ := H3.out (by omega)
    have hx2 : (l.flatMap cellsI)[i * 3 + 2]? = some (.int .u64 l[i].2) := by rw [flat3 _ (fun _ => rfl) _ _ _ (by omega)]; simp [hi]
    have HX := Lib.hid hx2
    have HG := Lib.hid hg
    have HT := Lib.hid htk
    clear hx2 hg htk hsz H3 e1 hf
    have hi0 : ¬ (i : Int) < 0 := by omega
    have hcap : l.length ≤ maxLen := by omega
    unfold maxLen at hcap
    go_enter Try.func36, Try.ntmps36
    go_wp2_with fail
    refine H.mono ?_
    rintro e w1 ⟨rfl, hb⟩
    have hd1 := (hb.block _ (heap_lt Hd.out)).trans Hd.out
    have hg1 := (hb.block _ (heap_lt HG.out)).trans HG.out
    obtain ⟨c0, f0⟩ := cells_of_block hd1 0 _ rfl
    simp only [List.getElem_toArray, List.getElem_cons_zero, List.getElem_cons_succ] at c0
    obtain ⟨x0, y0⟩ := row_cell hg1 HT.out HX.out (by omega)
    have HB := Lib.hid ((hB0.out).trans (hb.mono HSZ.out))
    clear hb hd1 hg1 f0 y0
    go_wp2
    go_ret2
    exact ⟨rfl, HB.out⟩

theorem nextR_any (R : RLoc) (r : RQ) (w : World) (h : RAt w R r) :
    Calls Try.prog 37 #[.pointer (some ⟨R.rq, 0, none⟩)] w fun e w' => (∃ (hn : r.l = []), e = .returned (.tuple #[.int .u64 0, .bool false]) ∨ False) ∧ Below w.heap.size w w' ∨
      (∃ (i : Nat) (hi : i < r.l.length), FirstAt r.l i ∧ e = .returned (.tuple #[.int .u64 r.l[i].2, .bool true])) ∧ Below w.heap.size w w' := by
  have H := firstR_any R r _ h
  obtain ⟨hd, hl, _⟩ := h
  obtain ⟨ao, cap, hv, h1, h2, h3⟩ := row_open hl
  rw [hv] at hd
  have H3 := Lib.hid h3
  have Hd := Lib.hid hd
  clear h3 hl hv hd
  generalize hl : r.l = l at *
  have hcap : l.length ≤ maxLen := by omega
  unfold maxLen at hcap
  go_enter Try.func37, Try.ntmps37
  go_wp2_with fail
  refine H.mono ?_
  rintro e w1 ⟨a, rfl, hf, hst⟩
  rcases hf with ⟨h0, rfl⟩ | ⟨i, hi, _, rfl, q1, q2⟩
  · have HN := Lib.hid (List.eq_nil_of_length_eq_zero h0)
    have HS := Lib.hid hst
    clear h0 hst H
    go_wp2
    go_ret2
    exact .inl ⟨⟨HN.out, .inl rfl⟩, HS.out.b⟩
  · have HF := Lib.hid (show FirstAt l i from .inr ⟨i, hi, hi, rfl, q1, q2⟩)
    obtain ⟨g, cur, rfl, hg, hsz, htk⟩ := H3.out (by omega)
    have hx2 : (l.flatMap cellsI)[i * 3 + 2]? = some (.int .u64 l[i].2) := by rw [flat3 _ (fun _ => rfl) _ _ _ (by omega)]; simp [hi]
    obtain ⟨c0, f0⟩ := cells_of_block Hd.out 0 _ rfl
    simp only [List.getElem_toArray, List.getElem_cons_zero, List.getElem_cons_succ] at c0
    obtain ⟨x0, y0⟩ := row_cell hg htk hx2 (by omega)
    have c0' := (hst.cell ⟨R.rq, 0, none⟩).trans c0
    have x0' := (hst.cell ⟨g, i * 3 + 2, none⟩).trans x0
    have HS := Lib.hid hst
    have hi0 : ¬ (i : Int) < 0 := by omega
    clear hx2 hg htk hsz H3 q1 q2 hst H c0 x0 f0 y0 Hd
    go_wp2
    go_ret2
    exact .inr ⟨⟨i, hi, HF.out, rfl⟩, HS.out.b⟩
end Go.Proofs.Ytemeedfldapcjaa
