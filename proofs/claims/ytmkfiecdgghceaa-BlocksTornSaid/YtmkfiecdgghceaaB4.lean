/- Layer 5 (blocks): copies of rows. -/
import Derived.Test.YtmkfiecdgghceaaB3
import Derived.OwnWalk
import Derived.Laws.OwnMore
namespace Go.Proofs.Ytmkfiecdgghceaa
open Go.RowKit
set_option linter.unusedVariables false
set_option linter.unusedSimpArgs false

def lenV : Value → Nat
  | .slice _ n _ => n
  | _ => 0

/-- a slice that reads as blocks -/
def IsL (w : World) (v : Value) (n : Nat) (bs : Bs) : Prop := bs.length = n * 64 ∧ ((v = .slice none 0 0 ∧ n = 0) ∨ ∃ b o c, v = .slice (some ⟨b, o, none⟩) n c ∧ n ≤ c ∧ c ≤ maxLen ∧ ∀ k (hk : k < bs.length), w.cell? ⟨b, o + k, none⟩ = some (.int .u8 (bs[k].toNat : Int)))
theorem IsL.below {w w' : World} {v : Value} {n : Nat} {l : Bs} (h : IsL w v n l) (hb : Below w.heap.size w w') : IsL w' v n l := by
  obtain ⟨hl, h | ⟨b, o, c, hv, h1, h2, h⟩⟩ := h
  · exact ⟨hl, .inl h⟩
  · exact ⟨hl, .inr ⟨b, o, c, hv, h1, h2, fun k hk => (hb.cell (p := ⟨b, o + k, none⟩) (World.block_lt_of_cell? w _ (h k hk))).trans (h k hk)⟩⟩
/-- a row of blocks that lies from block B on, the call's own -/
def OwnL (w : World) (B : Nat) (v : Value) (n : Nat) (l : Bs) : Prop := l.length = n * 64 ∧ w.ownsRow B 64 64 v n (cellsU l)
theorem OwnL.isL {w : World} {B : Nat} {v : Value} {n : Nat} {l : Bs} (h : OwnL w B v n l) : IsL w v n l := by
  obtain ⟨hl, h⟩ := h
  have h' := h
  obtain ⟨_, ⟨rfl, h0⟩ | ⟨g, cap, cur, rfl, _, _, h1, h2, _, _⟩⟩ := h
  · exact ⟨hl, .inl ⟨rfl, h0⟩⟩
  · refine ⟨hl, .inr ⟨g, 0, cap, rfl, h1, h2, fun k hk => ?_⟩⟩
    rw [Nat.zero_add, World.ownsRow.cellAt h' k (by omega), cellsU_get l k hk]
theorem OwnL.lv {w : World} {B : Nat} {v : Value} {n : Nat} {l : Bs} (h : OwnL w B v n l) : ∃ a c, v = .slice a n c := by
  obtain ⟨_, _, ⟨rfl, rfl⟩ | ⟨g, c, _, rfl, _⟩⟩ := h
  · exact ⟨_, _, rfl⟩
  · exact ⟨_, _, rfl⟩
theorem OwnB.lv {w : World} {B : Nat} {v : Value} {l : Bs} (h : OwnB w B v l) : ∃ a c, v = .slice a l.length c := by
  obtain ⟨_, ⟨rfl, h0⟩ | ⟨g, c, _, rfl, _⟩⟩ := h
  · exact ⟨none, 0, by rw [h0]⟩
  · exact ⟨_, _, rfl⟩
/-- its beginning -/
theorem IsL.take {w : World} {v : Value} {n : Nat} {l : Bs} (h : IsL w v n l) (m : Nat) (hm : m ≤ n) : ∀ b o c, v = .slice (some ⟨b, o, none⟩) n c → IsL w (.slice (some ⟨b, o, none⟩) m c) m (l.take (m * 64)) := by
  intro b o c hv
  obtain ⟨hl, ⟨rfl, _⟩ | ⟨b', o', c', rfl, h1, h2, h⟩⟩ := h
  · cases hv
  · cases hv
    refine ⟨by rw [List.length_take]; omega, .inr ⟨b, o, c, rfl, by omega, h2, fun k hk => ?_⟩⟩
    rw [List.length_take] at hk
    rw [List.getElem_take]
    exact h k (by omega)

theorem und_L : Try.prog.underlying 56 = some (.slice 64) := by kernel_rfl
theorem zero_l : ((Try.prog.info? 64).bind (·.zero)).map (fun z => z.cells.size) = some 64 := by kernel_rfl
theorem info_l : ∃ i z, Try.prog.info? 64 = some i ∧ i.zero = some z ∧ i.size = 64 ∧ i.bytes = 64 ∧ z.cells.size = 64 := by
  have h : (Try.prog.info? 64).map (fun i => (i.size, i.bytes)) = some (64, 64) := by kernel_rfl
  have hz := zero_l
  cases hi : Try.prog.info? 64 with
  | none => rw [hi] at h; cases h
  | some i =>
    rw [hi] at h hz
    simp only [Option.map_some, Option.some.injEq, Prod.mk.injEq] at h
    simp only [Option.bind_some, Option.map_eq_some_iff] at hz
    obtain ⟨z, h1, h2⟩ := hz
    exact ⟨i, z, rfl, h1, h.1, h.2, h2⟩

theorem run_app_blocks {w : World} {B : Nat} {v x : Value} {n m : Nat} {xs l : Bs} (ty : TypeId) (hown : OwnL w B v n xs) (hx : IsL w x m l) (hlim : n + m ≤ 1000000000) (hB : B ≤ w.heap.size) :
    ∃ v' w', (Builtin.append_ #[56, 56] ty #[v, x]).run Try.prog w = .ok v' w' ∧ OwnL w' B v' (n + m) (xs ++ l) ∧ w.grownBy w' v.ownBlock ∧ (∀ k, v'.ownBlock = some k → v.ownBlock = some k ∨ w.heap.size ≤ k) := by
  obtain ⟨i0, z, hi, hz0, hz1, hz2, hz3⟩ := info_l
  obtain ⟨hnl, hown⟩ := hown
  obtain ⟨hml, ⟨rfl, rfl⟩ | ⟨b, o, c, rfl, h1, h2, h⟩⟩ := hx
  · have : l = [] := List.eq_nil_of_length_eq_zero (by omega)
    subst this
    exact ⟨v, w, run_append_owned_none w B _ ty _ i0 64 und_L hi v _ _ hown, ⟨by simpa using hnl, by simpa using hown⟩, ⟨rfl, rfl, rfl, Nat.le_refl _, fun _ _ _ => rfl⟩, fun k hk => .inl hk⟩
  · have hnews : ∀ j u, (cellsU l)[j]? = some u → w.cell? ((⟨b, o, none⟩ : Addr).add j) = some u := fun j u hu => by
      have hj : j < l.length := by
        have := (List.getElem?_eq_some_iff.1 hu).1; simpa using this
      rw [cellsU_get l j hj] at hu
      cases hu
      rw [Addr.add_lit]; exact h j hj
    obtain ⟨v', w', h3, h4, h5, _⟩ := run_append_own (w := w) B 56 ty 64 i0 z 64 64 und_L hi hz0 hz1 hz2 hz3 (by decide) v _ _ hown ⟨b, o, none⟩ m c (cellsU l) (by simpa using hml) hnews (cellsU_one l) (by unfold maxLen; omega) (by omega) hB
    refine ⟨v', w', h3, ⟨by rw [List.length_append]; omega, by rw [cellsU_append]; exact h4⟩, h5, fun k hk => ?_⟩
    obtain ⟨_, ⟨rfl, h0⟩ | ⟨g, cap, cur, rfl, e1, e2, e3, e4, e5, e6⟩⟩ := id hown
    · subst h0
      have hxs : xs = [] := List.eq_nil_of_length_eq_zero (by omega)
      subst hxs
      obtain ⟨v2, w2, h3', h4', _, _⟩ := run_append_own (w := w) w.heap.size 56 ty 64 i0 z 64 64 und_L hi hz0 hz1 hz2 hz3 (by decide) (.slice none 0 0) 0 [] (World.ownsRow_nil _ _ _ _) ⟨b, o, none⟩ m c (cellsU l) (by simpa using hml) hnews (cellsU_one l) (by unfold maxLen; omega) (by omega) (Nat.le_refl _)
      rw [h3] at h3'
      cases h3'
      exact .inr (h4'.lt k hk).1
    · by_cases hroom : n + m ≤ cap
      · obtain ⟨w2, h3', _, _⟩ := run_append_fits (P := Try.prog) w B 56 ty 64 i0 64 und_L hi hz1 g n cap _ hown ⟨b, o, none⟩ m c (cellsU l) (by simpa using hml) hnews (cellsU_one l) hroom
        rw [h3] at h3'
        cases h3'
        exact .inl hk
      · obtain ⟨v2, w2, h3', h4', _⟩ := run_append_arg_grows (P := Try.prog) w 56 ty 64 i0 z 64 64 und_L hi hz0 hz1 hz2 hz3 (by decide) ⟨g, 0, none⟩ n cap (cellsU xs) (by simpa using hnl) (hown.cells rfl) ⟨b, o, none⟩ m c (cellsU l) (by simpa using hml) hnews (by omega) (by unfold maxLen; omega) (by omega)
        rw [h3] at h3'
        cases h3'
        exact .inr (h4'.lt k hk).1

theorem wpList_app_blocks {ops : Array Oper} {rest : List Oper} {o : Oper} {a : Act} {w : World} {Q : Exit → Act → World → Prop} (hgd : o.guard = none) (s x : Operand)
    (ho : o.op = .call { callee := .builtin .append, args := #[s, x], argTypes := #[56, 56] }) (B : Nat) (v : Value) (n : Nat) (xs : Bs) (hs : a.eval s = v) (hown : OwnL w B v n xs) (y : Value) (m : Nat) (l : Bs) (hx : a.eval x = y) (hy : IsL w y m l)
    (hlim : n + m ≤ 1000000000) (hB : B ≤ w.heap.size) (h : ∀ v' w', OwnL w' B v' (n + m) (xs ++ l) → w.grownBy w' v.ownBlock → (∀ k, v'.ownBlock = some k → v.ownBlock = some k ∨ w.heap.size ≤ k) → wpList Try.prog ops Q rest (a.put o.dst v') w') : wpList Try.prog ops Q (o :: rest) a w := by
  refine wpList_plain hgd fun K hK => ?_
  obtain ⟨v', w', hr, h1, h2, h3⟩ := run_app_blocks o.type hown hy hlim hB
  unfold Oper.wp
  simp [execOp, ho, resolve, invoke, builtin, hs, hx, hr, Result.andThen]
  exact hK _ _ (h v' w' h1 h2 h3)

set_option maxRecDepth 100000 in
set_option maxHeartbeats 1000000 in
theorem cloneB_any (l : Bs) (v : Value) (w : World) (hl : l.length ≤ 1000000) (h : IsB w v l) :
    Calls Try.prog 33 #[v] w (LayPost w l) := by
  rcases h with ⟨rfl, rfl⟩ | ⟨b, o, c, rfl, h1, h2, h⟩
  · have he : ∀ w : World, (binOp .eql 22 (.slice none 0 0) (.slice none 0 0)).run Try.prog w = .ok (.bool true) w := fun _ => rfl
    go_enter Try.func33, Try.ntmps33
    go_wp2
    go_ret
    exact ⟨_, rfl, World.ownsRow_nil _ _ _ _, Below.refl _ _⟩
  · have H := Lib.hid (show IsB w (.slice (some ⟨b, o, none⟩) l.length c) l from .inr ⟨b, o, c, rfl, h1, h2, h⟩)
    clear h
    have he : ∀ w : World, (binOp .eql 22 (.slice (some ⟨b, o, none⟩) l.length c) (.slice none 0 0)).run Try.prog w = .ok (.bool false) w := fun _ => rfl
    go_enter Try.func33, Try.ntmps33
    go_wp2_with (at_builtin; refine wpList_app_bytes rfl _ _ rfl w.heap.size _ [] rfl (World.ownsRow_made w _ 0 (Nat.le_refl _) (by unfold maxLen; omega) rfl) _ l rfl (H.out.below ((Below.refl w.heap.size w).alloc (Nat.le_refl _) _)) (by simp; omega) (by simp) ?_)
    intro v' w2 hown hgr
    have HO := Lib.hid (show OwnB w2 w.heap.size v' l from hown)
    have HB := Lib.hid (((Below.refl w.heap.size w).alloc (Nat.le_refl _) (.cells #[] 5)).grown hgr (by simp) (fun k e => by simp [Value.ownBlock] at e; omega))
    clear hown hgr
    go_wp2
    go_ret
    exact ⟨v', rfl, HO.out, HB.out⟩

def ClonePost (w : World) (n : Nat) (l : Bs) (e : Ending) (w' : World) : Prop := ∃ v, e = .returned v ∧ OwnL w' w.heap.size v n l ∧ Below w.heap.size w w'
set_option maxRecDepth 100000 in
set_option maxHeartbeats 1000000 in
theorem cloneL_any (n : Nat) (l : Bs) (v : Value) (w : World) (hl : n ≤ 1000000) (h : IsL w v n l) :
    Calls Try.prog 34 #[v] w (ClonePost w n l) := by
  obtain ⟨hnl, ⟨rfl, rfl⟩ | ⟨b, o, c, rfl, h1, h2, h⟩⟩ := h
  · have : l = [] := List.eq_nil_of_length_eq_zero (by omega)
    subst this
    have he : ∀ w : World, (binOp .eql 56 (.slice none 0 0) (.slice none 0 0)).run Try.prog w = .ok (.bool true) w := fun _ => rfl
    go_enter Try.func34, Try.ntmps34
    go_wp2
    go_ret
    exact ⟨_, rfl, ⟨rfl, World.ownsRow_nil _ _ _ _⟩, Below.refl _ _⟩
  · have H := Lib.hid (show IsL w (.slice (some ⟨b, o, none⟩) n c) n l from ⟨hnl, .inr ⟨b, o, c, rfl, h1, h2, h⟩⟩)
    clear h hnl
    have he : ∀ w : World, (binOp .eql 56 (.slice (some ⟨b, o, none⟩) n c) (.slice none 0 0)).run Try.prog w = .ok (.bool false) w := fun _ => rfl
    go_enter Try.func34, Try.ntmps34
    go_wp2_with (at_builtin; refine wpList_app_blocks rfl _ _ rfl w.heap.size _ 0 [] rfl ⟨rfl, World.ownsRow_made w _ 0 (Nat.le_refl _) (by unfold maxLen; omega) rfl⟩ _ n l rfl (H.out.below ((Below.refl w.heap.size w).alloc (Nat.le_refl _) _)) (by omega) (by simp) ?_)
    intro v' w2 hown hgr _
    have HO := Lib.hid (show OwnL w2 w.heap.size v' n l by simpa using hown)
    have HB := Lib.hid (((Below.refl w.heap.size w).alloc (Nat.le_refl _) (.cells #[] 64)).grown hgr (by simp) (fun k e => by simp [Value.ownBlock] at e; omega))
    clear hown hgr
    go_wp2
    go_ret
    exact ⟨v', rfl, HO.out, HB.out⟩

end Go.Proofs.Ytmkfiecdgghceaa
