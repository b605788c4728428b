/- Layer 5 (blocks): rows of bytes that a call has made; a record's bytes. -/
import Derived.Test.YtmkfiecdgghceaaB1
import Derived.OwnWalk
import Derived.ArgAppend
import Derived.Laws.AppendOwn
import Derived.Laws.AppendOwnNone
import Derived.Laws.MakeOwn
namespace Go.Proofs.Ytmkfiecdgghceaa
open Go.RowKit
set_option linter.unusedVariables false
set_option linter.unusedSimpArgs false

abbrev cellU (c : UInt8) : Value := .int .u8 (c.toNat : Int)
def cellsU (l : Bs) : List Value := l.map cellU
@[simp] theorem cellsU_length (l : Bs) : (cellsU l).length = l.length := by simp [cellsU]
theorem cellsU_append (a b : Bs) : cellsU (a ++ b) = cellsU a ++ cellsU b := by simp [cellsU]
theorem cellsU_get (l : Bs) (k : Nat) (h : k < l.length) : (cellsU l)[k]? = some (.int .u8 (l[k].toNat : Int)) := by simp [cellsU, h]
theorem cellsU_one (l : Bs) : ∀ u ∈ cellsU l, u.oneCell' = true := by
  intro u hu
  obtain ⟨c, _, rfl⟩ := List.mem_map.1 hu
  rfl

/-- a slice that reads as bytes -/
def IsB (w : World) (v : Value) (l : Bs) : Prop := (v = .slice none 0 0 ∧ l = []) ∨ ∃ b o c, v = .slice (some ⟨b, o, none⟩) l.length c ∧ l.length ≤ c ∧ c ≤ maxLen ∧ ∀ k (hk : k < l.length), w.cell? ⟨b, o + k, none⟩ = some (.int .u8 (l[k].toNat : Int))
theorem IsB.rd {w : World} {v : Value} {l : Bs} (h : IsB w v l) : ∃ a c, v = .slice a l.length c ∧ RdAt w a l := by
  rcases h with ⟨rfl, rfl⟩ | ⟨b, o, c, rfl, _, _, h⟩
  · exact ⟨none, 0, rfl, .inl rfl⟩
  · exact ⟨_, _, rfl, .inr ⟨b, o, rfl, h⟩⟩
theorem IsB.below {w w' : World} {v : Value} {l : Bs} (h : IsB w v l) (hb : Below w.heap.size w w') : IsB w' v l := by
  rcases h with h | ⟨b, o, c, hv, h1, h2, h⟩
  · exact .inl h
  · refine .inr ⟨b, o, c, hv, h1, h2, fun k hk => (hb.cell (p := ⟨b, o + k, none⟩) (World.block_lt_of_cell? w _ (h k hk))).trans (h k hk)⟩

/-- a row of bytes that lies from block B on, the call's own -/
abbrev OwnB (w : World) (B : Nat) (v : Value) (l : Bs) : Prop := w.ownsRow B 5 1 v l.length (cellsU l)
theorem OwnB.isB {w : World} {B : Nat} {v : Value} {l : Bs} (h : OwnB w B v l) : IsB w v l := by
  have h' := h
  obtain ⟨_, ⟨rfl, h0⟩ | ⟨g, cap, cur, rfl, _, _, h1, h2, _, _⟩⟩ := h
  · exact .inl ⟨rfl, List.eq_nil_of_length_eq_zero h0⟩
  · refine .inr ⟨g, 0, cap, rfl, h1, h2, fun k hk => ?_⟩
    rw [Nat.zero_add, World.ownsRow.cellAt h' k (by omega), cellsU_get l k hk]

theorem OwnB.mono {w : World} {B B' : Nat} {v : Value} {n : Nat} {xs : List Value} (h : w.ownsRow B 5 1 v n xs) (hB : B' ≤ B) : w.ownsRow B' 5 1 v n xs := by
  obtain ⟨h1, h2 | ⟨g, cap, cur, e1, e2, e3⟩⟩ := h
  · exact ⟨h1, .inl h2⟩
  · exact ⟨h1, .inr ⟨g, cap, cur, e1, by omega, e3⟩⟩
theorem und_B : Try.prog.underlying 22 = some (.slice 5) := by kernel_rfl
theorem info_b : (Try.prog.info? 5).map (fun i => (i.zero, i.size, i.bytes)) = some (some (.int .u8 0), 1, 1) := by kernel_rfl

theorem run_app_bytes {w : World} {B : Nat} {v x : Value} {xs l : Bs} (ty : TypeId) (hown : OwnB w B v xs) (hx : IsB w x l) (hlim : xs.length + l.length ≤ 140737488355328) (hB : B ≤ w.heap.size) :
    ∃ v' w', (Builtin.append_ #[22, 22] ty #[v, x]).run Try.prog w = .ok v' w' ∧ OwnB w' B v' (xs ++ l) ∧ w.grownBy w' v.ownBlock := by
  obtain ⟨i0, hi, hz0, hz1, hz2⟩ := info_parts info_b
  rcases hx with ⟨rfl, rfl⟩ | ⟨b, o, c, rfl, h1, h2, h⟩
  · exact ⟨v, w, run_append_owned_none w B _ ty _ i0 1 und_B hi v _ _ hown, by simpa using hown, ⟨rfl, rfl, rfl, Nat.le_refl _, fun _ _ _ => rfl⟩⟩
  · obtain ⟨v', w', h3, h4, h5, _⟩ := run_append_own (w := w) B 22 ty 5 i0 (.int .u8 0) 1 1 und_B hi hz0 hz1 hz2 rfl (by decide) v _ _ hown ⟨b, o, none⟩ l.length c (cellsU l) (by simp)
      (fun j u hu => by
        have hj : j < l.length := by
          have := (List.getElem?_eq_some_iff.1 hu).1; simpa using this
        rw [cellsU_get l j hj] at hu
        cases hu
        rw [Addr.add_lit]; exact h j hj) (cellsU_one l) (by unfold maxLen; omega) (by omega) hB
    exact ⟨v', w', h3, by rw [OwnB, List.length_append, cellsU_append]; exact h4, h5⟩

theorem wpList_app_bytes {ops : Array Oper} {rest : List Oper} {o : Oper} {a : Act} {w : World} {Q : Exit → Act → World → Prop} (hgd : o.guard = none) (s x : Operand)
    (ho : o.op = .call { callee := .builtin .append, args := #[s, x], argTypes := #[22, 22] }) (B : Nat) (v : Value) (xs : Bs) (hs : a.eval s = v) (hown : OwnB w B v xs) (y : Value) (l : Bs) (hx : a.eval x = y) (hy : IsB w y l)
    (hlim : xs.length + l.length ≤ 140737488355328) (hB : B ≤ w.heap.size) (h : ∀ v' w', OwnB w' B v' (xs ++ l) → w.grownBy w' v.ownBlock → wpList Try.prog ops Q rest (a.put o.dst v') w') : wpList Try.prog ops Q (o :: rest) a w := by
  refine wpList_plain hgd fun K hK => ?_
  obtain ⟨v', w', hr, h1, h2⟩ := run_app_bytes o.type hown hy hlim hB
  unfold Oper.wp
  simp [execOp, ho, resolve, invoke, builtin, hs, hx, hr, Result.andThen]
  exact hK _ _ (h v' w' h1 h2)

theorem head8_cells (n k s : Nat) : (#[.int .u8 ((n : Int) / 256 % 256), .int .u8 ((n : Int) % 256), .int .u8 ((k : Int) / 256 % 256), .int .u8 ((k : Int) % 256), .int .u8 ((s : Int) / 16777216 % 256), .int .u8 ((s : Int) / 65536 % 256), .int .u8 ((s : Int) / 256 % 256), .int .u8 ((s : Int) % 256)] : Array Value).toList = cellsU (head8 n k s) := by
  simp only [cellsU, head8, List.map_cons, List.map_nil, cellU, UInt8.toNat_ofNat']
  simp only [List.cons.injEq, Value.int.injEq, true_and, and_true]
  refine ⟨?_, ?_, ?_, ?_, ?_, ?_, ?_, ?_⟩ <;> omega
theorem cell_alloc_list {w : World} {cs : Array Value} {t : TypeId} {l : List Value} (h : cs.toList = l) : ∀ j u, l[j]? = some u → (w.alloc (.cells cs t)).cell? ((⟨w.heap.size, 0, none⟩ : Addr).add j) = some u := by
  intro j u hu
  subst h
  rw [Addr.add_lit, Nat.zero_add]
  have e : (w.alloc (.cells cs t)).heap[w.heap.size]? = some (.cells cs t) := by show (w.heap.push _)[w.heap.size]? = _; simp
  simp only [World.cell?, e]
  simpa using hu

def LayPost (w : World) (l : Bs) (e : Ending) (w' : World) : Prop := ∃ v, e = .returned v ∧ OwnB w' w.heap.size v l ∧ Below w.heap.size w w'

set_option maxRecDepth 100000 in
set_option maxHeartbeats 1000000 in
theorem lay_any (l : Bs) (k : Nat) (b o c : Nat) (w : World) (h1 : 1 ≤ l.length) (h2 : l.length ≤ 1024) (hc : l.length ≤ c) (hcm : c ≤ maxLen) (hk : k ≤ 1000000) (h : ∀ k (hk : k < l.length), w.cell? ⟨b, o + k, none⟩ = some (.int .u8 (l[k].toNat : Int))) :
    Calls Try.prog 32 #[.slice (some ⟨b, o, none⟩) l.length c, .int .i64 k] w (LayPost w (laid l k)) := by
  have H := Lib.hid h
  clear h
  have hs := adler_lt l
  obtain ⟨S, hS⟩ : ∃ S, adler l = S := ⟨_, rfl⟩
  rw [hS] at hs
  have HS := Lib.hid hS
  obtain ⟨i0, hi, hz0, hz1, hz2⟩ := info_parts info_b
  go_enter Try.func32, Try.ntmps32
  go_wp2_with (first
    | (go_at_call 12; refine (sum_any l _ _ _ (by omega) (.inr ⟨b, o, rfl, H.out⟩)).mono ?_; rintro e w' ⟨rfl, rfl⟩; rw [hS]; clear hS)
    | (at_builtin; refine wpList_append_grows _ rfl _ _ 22 rfl 5 i0 (.int .u8 0) 1 1 und_B hi hz0 hz1 hz2 rfl (by decide) (some ⟨w'.heap.size, 0, none⟩) 8 8 (cellsU (head8 l.length k S)) rfl (fun h => by cases h) rfl ?hold ⟨b, o, none⟩ l.length c (cellsU l) rfl (by simp) ?hnew (cellsU_one l) (by omega) (by unfold maxLen; omega) (by omega) ?_))
  case hold =>
    intro b' hb'
    cases hb'
    refine cell_alloc_list ?_
    rw [← head8_cells]
    simp
    try omega
  case hnew =>
    intro j u hu
    have hj : j < l.length := by have := (List.getElem?_eq_some_iff.1 hu).1; simpa using this
    rw [cellsU_get l j hj] at hu
    cases hu
    rw [Addr.add_lit]
    exact (Below.cell (((Below.refl w'.heap.size w').alloc (Nat.le_refl _) _)) (World.block_lt_of_cell? _ _ (H.out j hj))).trans (H.out j hj)
  intro v' w2 hown hgr
  go_wp2
  have hb : Below w'.heap.size w' w2 := ((Below.refl w'.heap.size w').alloc (Nat.le_refl _) _).grown hgr (by simp) (fun k e => by cases e)
  have hw : OwnB w2 w'.heap.size v' (laid l k) := by
    have hown' := OwnB.mono hown (B' := w'.heap.size) (by simp)
    have hS' : adler l = S := HS.out
    simp only [OwnB, laid, hS', List.length_append, head8_length, cellsU_append] at hown' ⊢
    exact hown'
  have HW := Lib.hid hw; have HB := Lib.hid hb
  clear hw hb hown hgr
  go_ret
  exact ⟨v', rfl, HW.out, HB.out⟩

end Go.Proofs.Ytmkfiecdgghceaa
