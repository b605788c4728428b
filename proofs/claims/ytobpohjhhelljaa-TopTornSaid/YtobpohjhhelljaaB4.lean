/- Layer 5 (blocks): a log's Fork. -/
import Derived.Test.YtobpohjhhelljaaB1
import Derived.OwnWalk
import Derived.Laws.OwnMore
import Derived.Test.YtobpohjhhelljaaKeeps
import Derived.IntWalk
import Derived.Test.YtobpohjhhelljaaReg
namespace Go.Proofs.Ytobpohjhhelljaa
open Go.RowKit
set_option linter.unusedVariables false
set_option linter.unusedSimpArgs false


/-- a slice that reads as blocks -/
def IsL (w : World) (v : Value) (n : Nat) (bs : Bs) : Prop := bs.length = n * 64 ∧ ((v = .slice none 0 0 ∧ n = 0) ∨ ∃ b o c, v = .slice (some ⟨b, o, none⟩) n c ∧ n ≤ c ∧ c ≤ maxLen ∧ ∀ k (hk : k < bs.length), w.cell? ⟨b, o + k, none⟩ = some (.int .u8 (bs[k].toNat : Int)))
theorem IsL.below {w w' : World} {v : Value} {n : Nat} {l : Bs} (h : IsL w v n l) (hb : Below w.heap.size w w') : IsL w' v n l := by
  obtain ⟨hl, h | ⟨b, o, c, hv, h1, h2, h⟩⟩ := h
  · exact ⟨hl, .inl h⟩
  · exact ⟨hl, .inr ⟨b, o, c, hv, h1, h2, fun k hk => (hb.cell (p := ⟨b, o + k, none⟩) (World.block_lt_of_cell? w _ (h k hk))).trans (h k hk)⟩⟩
/-- a row of blocks that lies from block B on, the call's own -/
def OwnL (w : World) (B : Nat) (v : Value) (n : Nat) (l : Bs) : Prop := l.length = n * 64 ∧ w.ownsRow B 91 64 v n (cellsU l)
theorem OwnL.isL {w : World} {B : Nat} {v : Value} {n : Nat} {l : Bs} (h : OwnL w B v n l) : IsL w v n l := by
  obtain ⟨hl, h⟩ := h
  have h' := h
  obtain ⟨_, ⟨rfl, h0⟩ | ⟨g, cap, cur, rfl, _, _, h1, h2, _, _⟩⟩ := h
  · exact ⟨hl, .inl ⟨rfl, h0⟩⟩
  · refine ⟨hl, .inr ⟨g, 0, cap, rfl, h1, h2, fun k hk => ?_⟩⟩
    rw [Nat.zero_add, World.ownsRow.cellAt h' k (by omega), cellsU_get l k hk]
theorem OwnL.lv {w : World} {B : Nat} {v : Value} {n : Nat} {l : Bs} (h : OwnL w B v n l) : ∃ a c, v = .slice a n c := by
  obtain ⟨_, _, ⟨rfl, rfl⟩ | ⟨g, c, _, rfl, _⟩⟩ := h
  · exact ⟨_, _, rfl⟩
  · exact ⟨_, _, rfl⟩
/-- its beginning -/
theorem IsL.take {w : World} {v : Value} {n : Nat} {l : Bs} (h : IsL w v n l) (m : Nat) (hm : m ≤ n) : ∀ b o c, v = .slice (some ⟨b, o, none⟩) n c → IsL w (.slice (some ⟨b, o, none⟩) m c) m (l.take (m * 64)) := by
  intro b o c hv
  obtain ⟨hl, ⟨rfl, _⟩ | ⟨b', o', c', rfl, h1, h2, h⟩⟩ := h
  · cases hv
  · cases hv
    refine ⟨by rw [List.length_take]; omega, .inr ⟨b, o, c, rfl, by omega, h2, fun k hk => ?_⟩⟩
    rw [List.length_take] at hk
    rw [List.getElem_take]
    exact h k (by omega)

theorem und_L : Try.prog.underlying 81 = some (.slice 91) := by kernel_rfl
theorem zero_l : ((Try.prog.info? 91).bind (·.zero)).map (fun z => z.cells.size) = some 64 := by kernel_rfl
theorem info_l : ∃ i z, Try.prog.info? 91 = some i ∧ i.zero = some z ∧ i.size = 64 ∧ i.bytes = 64 ∧ z.cells.size = 64 := by
  have h : (Try.prog.info? 91).map (fun i => (i.size, i.bytes)) = some (64, 64) := by kernel_rfl
  have hz := zero_l
  cases hi : Try.prog.info? 91 with
  | none => rw [hi] at h; cases h
  | some i =>
    rw [hi] at h hz
    simp only [Option.map_some, Option.some.injEq, Prod.mk.injEq] at h
    simp only [Option.bind_some, Option.map_eq_some_iff] at hz
    obtain ⟨z, h1, h2⟩ := hz
    exact ⟨i, z, rfl, h1, h.1, h.2, h2⟩

theorem run_app_blocks {w : World} {B : Nat} {v x : Value} {n m : Nat} {xs l : Bs} (ty : TypeId) (hown : OwnL w B v n xs) (hx : IsL w x m l) (hlim : n + m ≤ 1000000000) (hB : B ≤ w.heap.size) :
    ∃ v' w', (Builtin.append_ #[81, 81] ty #[v, x]).run Try.prog w = .ok v' w' ∧ OwnL w' B v' (n + m) (xs ++ l) ∧ w.grownBy w' v.ownBlock ∧ (∀ k, v'.ownBlock = some k → v.ownBlock = some k ∨ w.heap.size ≤ k) := by
  obtain ⟨i0, z, hi, hz0, hz1, hz2, hz3⟩ := info_l
  obtain ⟨hnl, hown⟩ := hown
  obtain ⟨hml, ⟨rfl, rfl⟩ | ⟨b, o, c, rfl, h1, h2, h⟩⟩ := hx
  · have : l = [] := List.eq_nil_of_length_eq_zero (by omega)
    subst this
    exact ⟨v, w, run_append_owned_none w B _ ty _ i0 64 und_L hi v _ _ hown, ⟨by simpa using hnl, by simpa using hown⟩, ⟨rfl, rfl, rfl, Nat.le_refl _, fun _ _ _ => rfl⟩, fun k hk => .inl hk⟩
  · have hnews : ∀ j u, (cellsU l)[j]? = some u → w.cell? ((⟨b, o, none⟩ : Addr).add j) = some u := fun j u hu => by
      have hj : j < l.length := by
        have := (List.getElem?_eq_some_iff.1 hu).1; simpa using this
      rw [cellsU_get l j hj] at hu
      cases hu
      rw [Addr.add_lit]; exact h j hj
    obtain ⟨v', w', h3, h4, h5, _⟩ := run_append_own (w := w) B 81 ty 91 i0 z 64 64 und_L hi hz0 hz1 hz2 hz3 (by decide) v _ _ hown ⟨b, o, none⟩ m c (cellsU l) (by simpa using hml) hnews (cellsU_one l) (by unfold maxLen; omega) (by omega) hB
    refine ⟨v', w', h3, ⟨by rw [List.length_append]; omega, by rw [cellsU_append]; exact h4⟩, h5, fun k hk => ?_⟩
    obtain ⟨_, ⟨rfl, h0⟩ | ⟨g, cap, cur, rfl, e1, e2, e3, e4, e5, e6⟩⟩ := id hown
    · subst h0
      have hxs : xs = [] := List.eq_nil_of_length_eq_zero (by omega)
      subst hxs
      obtain ⟨v2, w2, h3', h4', _, _⟩ := run_append_own (w := w) w.heap.size 81 ty 91 i0 z 64 64 und_L hi hz0 hz1 hz2 hz3 (by decide) (.slice none 0 0) 0 [] (World.ownsRow_nil _ _ _ _) ⟨b, o, none⟩ m c (cellsU l) (by simpa using hml) hnews (cellsU_one l) (by unfold maxLen; omega) (by omega) (Nat.le_refl _)
      rw [h3] at h3'
      cases h3'
      exact .inr (h4'.lt k hk).1
    · by_cases hroom : n + m ≤ cap
      · obtain ⟨w2, h3', _, _⟩ := run_append_fits (P := Try.prog) w B 81 ty 91 i0 64 und_L hi hz1 g n cap _ hown ⟨b, o, none⟩ m c (cellsU l) (by simpa using hml) hnews (cellsU_one l) hroom
        rw [h3] at h3'
        cases h3'
        exact .inl hk
      · obtain ⟨v2, w2, h3', h4', _⟩ := run_append_arg_grows (P := Try.prog) w 81 ty 91 i0 z 64 64 und_L hi hz0 hz1 hz2 hz3 (by decide) ⟨g, 0, none⟩ n cap (cellsU xs) (by simpa using hnl) (hown.cells rfl) ⟨b, o, none⟩ m c (cellsU l) (by simpa using hml) hnews (by omega) (by unfold maxLen; omega) (by omega)
        rw [h3] at h3'
        cases h3'
        exact .inr (h4'.lt k hk).1

theorem wpList_app_blocks {ops : Array Oper} {rest : List Oper} {o : Oper} {a : Act} {w : World} {Q : Exit → Act → World → Prop} (hgd : o.guard = none) (s x : Operand)
    (ho : o.op = .call { callee := .builtin .append, args := #[s, x], argTypes := #[81, 81] }) (B : Nat) (v : Value) (n : Nat) (xs : Bs) (hs : a.eval s = v) (hown : OwnL w B v n xs) (y : Value) (m : Nat) (l : Bs) (hx : a.eval x = y) (hy : IsL w y m l)
    (hlim : n + m ≤ 1000000000) (hB : B ≤ w.heap.size) (h : ∀ v' w', OwnL w' B v' (n + m) (xs ++ l) → w.grownBy w' v.ownBlock → (∀ k, v'.ownBlock = some k → v.ownBlock = some k ∨ w.heap.size ≤ k) → wpList Try.prog ops Q rest (a.put o.dst v') w') : wpList Try.prog ops Q (o :: rest) a w := by
  refine wpList_plain hgd fun K hK => ?_
  obtain ⟨v', w', hr, h1, h2, h3⟩ := run_app_blocks o.type hown hy hlim hB
  unfold Oper.wp
  simp [execOp, ho, resolve, invoke, builtin, hs, hx, hr, Result.andThen]
  exact hK _ _ (h v' w' h1 h2 h3)

set_option maxRecDepth 100000 in
set_option maxHeartbeats 1000000 in
theorem cloneB_any (l : Bs) (v : Value) (w : World) (hl : l.length ≤ 1000000) (h : IsB w v l) :
    Calls Try.prog 81 #[v] w (LayPost w l) := by
  rcases h with ⟨rfl, rfl⟩ | ⟨b, o, c, rfl, h1, h2, h⟩
  · have he : ∀ w : World, (binOp .eql 41 (.slice none 0 0) (.slice none 0 0)).run Try.prog w = .ok (.bool true) w := fun _ => rfl
    go_enter Try.func81, Try.ntmps81
    go_wp2
    go_ret
    exact ⟨_, rfl, World.ownsRow_nil _ _ _ _, Below.refl _ _⟩
  · have H := Lib.hid (show IsB w (.slice (some ⟨b, o, none⟩) l.length c) l from .inr ⟨b, o, c, rfl, h1, h2, h⟩)
    clear h
    have he : ∀ w : World, (binOp .eql 41 (.slice (some ⟨b, o, none⟩) l.length c) (.slice none 0 0)).run Try.prog w = .ok (.bool false) w := fun _ => rfl
    go_enter Try.func81, Try.ntmps81
    go_wp2_with (at_builtin; refine wpList_app_bytes rfl _ _ rfl w.heap.size _ [] rfl (World.ownsRow_made w _ 0 (Nat.le_refl _) (by unfold maxLen; omega) rfl) _ l rfl (H.out.below ((Below.refl w.heap.size w).alloc (Nat.le_refl _) _)) (by simp; omega) (by simp) ?_)
    intro v' w2 hown hgr
    have HO := Lib.hid (show OwnB w2 w.heap.size v' l from hown)
    have HB := Lib.hid (((Below.refl w.heap.size w).alloc (Nat.le_refl _) (.cells #[] 5)).grown hgr (by simp) (fun k e => by simp [Value.ownBlock] at e; omega))
    clear hown hgr
    go_wp2
    go_ret
    exact ⟨v', rfl, HO.out, HB.out⟩

def ClonePost (w : World) (n : Nat) (l : Bs) (e : Ending) (w' : World) : Prop := ∃ v, e = .returned v ∧ OwnL w' w.heap.size v n l ∧ Below w.heap.size w w'
set_option maxRecDepth 100000 in
set_option maxHeartbeats 1000000 in
theorem cloneL_any (n : Nat) (l : Bs) (v : Value) (w : World) (hl : n ≤ 1000000) (h : IsL w v n l) :
    Calls Try.prog 58 #[v] w (ClonePost w n l) := by
  obtain ⟨hnl, ⟨rfl, rfl⟩ | ⟨b, o, c, rfl, h1, h2, h⟩⟩ := h
  · have : l = [] := List.eq_nil_of_length_eq_zero (by omega)
    subst this
    have he : ∀ w : World, (binOp .eql 81 (.slice none 0 0) (.slice none 0 0)).run Try.prog w = .ok (.bool true) w := fun _ => rfl
    go_enter Try.func58, Try.ntmps58
    go_wp2
    go_ret
    exact ⟨_, rfl, ⟨rfl, World.ownsRow_nil _ _ _ _⟩, Below.refl _ _⟩
  · have H := Lib.hid (show IsL w (.slice (some ⟨b, o, none⟩) n c) n l from ⟨hnl, .inr ⟨b, o, c, rfl, h1, h2, h⟩⟩)
    clear h hnl
    have he : ∀ w : World, (binOp .eql 81 (.slice (some ⟨b, o, none⟩) n c) (.slice none 0 0)).run Try.prog w = .ok (.bool false) w := fun _ => rfl
    go_enter Try.func58, Try.ntmps58
    go_wp2_with (at_builtin; refine wpList_app_blocks rfl _ _ rfl w.heap.size _ 0 [] rfl ⟨rfl, World.ownsRow_made w _ 0 (Nat.le_refl _) (by unfold maxLen; omega) rfl⟩ _ n l rfl (H.out.below ((Below.refl w.heap.size w).alloc (Nat.le_refl _) _)) (by omega) (by simp) ?_)
    intro v' w2 hown hgr _
    have HO := Lib.hid (show OwnL w2 w.heap.size v' n l by simpa using hown)
    have HB := Lib.hid (((Below.refl w.heap.size w).alloc (Nat.le_refl _) (.cells #[] 91)).grown hgr (by simp) (fun k e => by simp [Value.ownBlock] at e; omega))
    clear hown hgr
    go_wp2
    go_ret
    exact ⟨v', rfl, HO.out, HB.out⟩



/-! ### one block read and written -/
theorem run_load_blk (cs : Bs) (hl : cs.length = 64) (b o : Nat) (w : World) (h : ∀ k (hk : k < cs.length), w.cell? ⟨b, o + k, none⟩ = some (.int .u8 (cs[k].toNat : Int))) : (loadVar 91 ⟨b, o, none⟩).run Try.prog w = .ok (.agg (cellsU cs).toArray) w := by
  have := load_cells_at (P := Try.prog) (b := b) (o := o) (cs := (cellsU cs).toArray) (w := w) (fun k hk => by
    have hk' : k < cs.length := by simpa using hk
    rw [h k hk']
    simpa using (cellsU_get cs k hk').symm) 64 0 #[] (by simp [hl]) (by simp)
  have h1 : (isAgg 91).run Try.prog w = .ok true w := by kernel_rfl
  have h2 : (sizeOf 91).run Try.prog w = .ok 64 w := by kernel_rfl
  simp only [loadVar, Sem.run_bind, h1, h2, Result.andThen, loadCells, this, if_true, Sem.run_pure]
theorem run_store_blk (cs : Bs) (hl : cs.length = 64) (b : Nat) (old : Array Value) (w : World) (h : w.heap[b]? = some (.cells old 91 (0, 0))) (hs : old.size = 64) :
    (storeVar 91 ⟨b, 0, none⟩ (.agg (cellsU cs).toArray)).run Try.prog w = .ok () (Wset w b (.cells (cellsU cs).toArray 91 (0, 0))) := by
  have h2 : (sizeOf 91).run Try.prog w = .ok 64 w := by kernel_rfl
  have := store_cells (P := Try.prog) (b := b) (t := 91) (cellsU cs).toArray (by intro v hv; simp [cellsU] at hv; obtain ⟨c, _, rfl⟩ := hv; rfl) (cellsU cs) 0 old w h (by simp [hs, hl]) (by simp) (by simp)
  simp only [storeVar, Sem.run_bind, h2, Result.andThen, Value.cells, List.size_toArray, cellsU_length, hl]
  simpa using this
theorem exec_loadBlk {o : Oper} {a : Act} {w : World} {x : Operand} {b f : Nat} (cs : Bs) (hl : cs.length = 64) (hop : o.op = .load 91 x) (hx : a.eval x = .pointer (some ⟨b, f, none⟩)) (h : ∀ k (hk : k < cs.length), w.cell? ⟨b, f + k, none⟩ = some (.int .u8 (cs[k].toNat : Int))) :
    (execOp a.eval o).run Try.prog w = .ok (.value (.agg (cellsU cs).toArray)) w := by
  have := run_load_blk cs hl b f w h
  simp [execOp, hop, hx, Instr.loadAt, run_sureAddr, this, Result.andThen]
theorem wpList_loadBlk {ops : Array Oper} {Q : Exit → Act → World → Prop} {o : Oper} {rest : List Oper} {a : Act} {w : World} (hg : o.guard = none) (x : Operand) (hop : o.op = .load 91 x) (b f : Nat) (hx : a.eval x = .pointer (some ⟨b, f, none⟩))
    (cs : Bs) (hl : cs.length = 64) (h : ∀ k (hk : k < cs.length), w.cell? ⟨b, f + k, none⟩ = some (.int .u8 (cs[k].toNat : Int))) (hK : wpList Try.prog ops Q rest (a.put o.dst (.agg (cellsU cs).toArray)) w) : wpList Try.prog ops Q (o :: rest) a w :=
  wpList_plain hg fun K hK' => by
    unfold Oper.wp
    rw [exec_loadBlk cs hl hop hx h]
    exact hK' _ _ hK
theorem wpList_storeBlk {ops : Array Oper} {Q : Exit → Act → World → Prop} {o : Oper} {rest : List Oper} {a : Act} {w : World} (hg : o.guard = none) (x y : Operand) (hop : o.op = .store 91 x y) (b : Nat) (hx : a.eval x = .pointer (some ⟨b, 0, none⟩))
    (cs : Bs) (hl : cs.length = 64) (hy : a.eval y = .agg (cellsU cs).toArray) (old : Array Value) (h : w.heap[b]? = some (.cells old 91 (0, 0))) (hs : old.size = 64) (hK : wpList Try.prog ops Q rest (a.put o.dst undef) (Wset w b (.cells (cellsU cs).toArray 91 (0, 0)))) :
    wpList Try.prog ops Q (o :: rest) a w :=
  wpList_plain hg fun K hK' => by
    have := run_store_blk cs hl b old w h hs
    unfold Oper.wp
    simp [execOp, hop, hx, hy, Instr.storeAt, run_sureAddr, this, Result.andThen]
    exact hK' _ _ hK
theorem isB_of_heap {w : World} {b : Nat} {t : TypeId} (cs : Bs) (h : w.heap[b]? = some (.cells (cellsU cs).toArray t (0, 0))) (hm : cs.length ≤ maxLen) : IsB w (.slice (some ⟨b, 0, none⟩) cs.length cs.length) cs :=
  .inr ⟨b, 0, _, rfl, Nat.le_refl _, hm, fun k hk => by simp only [World.cell?, h]; simpa using cellsU_get cs k hk⟩

/-! ### a log -/
structure LogAt (w : World) (B p : Nat) (v : Value) (n : Nat) (bs : Bs) (last most : Nat) : Prop where
  cells : w.heap[p]? = some (.cells #[v, .int .i64 (last : Int), .int .i64 (most : Int)] 83 (0, 0))
  row : OwnL w B v n bs
  base : B ≤ p
  hl : last ≤ n
  hn : n ≤ most
  hm : most ≤ 4096
theorem LogAt.kept {w w' : World} {B p : Nat} {v : Value} {n : Nat} {bs : Bs} {last most : Nat} (h : LogAt w B p v n bs last most) (hk : ∀ i, i = p ∨ v.ownBlock = some i → w'.heap[i]? = w.heap[i]?) : LogAt w' B p v n bs last most :=
  ⟨(hk p (.inl rfl)).trans h.cells, ⟨h.row.1, ownsRow_of_heap h.row.2 fun k hk' => hk k (.inr hk')⟩, h.base, h.hl, h.hn, h.hm⟩
theorem LogAt.lt {w : World} {B p : Nat} {v : Value} {n : Nat} {bs : Bs} {last most : Nat} (h : LogAt w B p v n bs last most) : p < w.heap.size ∧ ∀ k, v.ownBlock = some k → B ≤ k ∧ k < w.heap.size := ⟨heap_lt h.cells, h.row.2.lt⟩
theorem LogAt.below {w w' : World} {B p : Nat} {v : Value} {n : Nat} {bs : Bs} {last most : Nat} (h : LogAt w B p v n bs last most) (hb : Below w.heap.size w w') : LogAt w' B p v n bs last most :=
  h.kept fun i hi => hb.block i (by rcases hi with rfl | hi; exact h.lt.1; exact (h.lt.2 i hi).2)
theorem LogAt.ne {w : World} {B p : Nat} {v : Value} {n : Nat} {bs : Bs} {last most : Nat} (h : LogAt w B p v n bs last most) : v.ownBlock ≠ some p := by
  intro e
  obtain ⟨_, h1⟩ := h.row
  obtain ⟨_, ⟨rfl, _⟩ | ⟨g, cap, cur, rfl, _, hg, _⟩⟩ := h1
  · simp [Value.ownBlock] at e
  · simp [Value.ownBlock] at e
    subst e
    rw [h.cells] at hg
    simp at hg
/-- the row's value: nil, or at a block's head -/
theorem LogAt.val {w : World} {B p : Nat} {v : Value} {n : Nat} {bs : Bs} {last most : Nat} (h : LogAt w B p v n bs last most) : (v = .slice none 0 0 ∧ n = 0) ∨ ∃ g c, v = .slice (some ⟨g, 0, none⟩) n c ∧ n ≤ c ∧ c ≤ maxLen := by
  obtain ⟨_, ⟨rfl, hn⟩ | ⟨g, cap, cur, rfl, _, _, h1, h2, _⟩⟩ := h.row.2
  · exact .inl ⟨rfl, hn⟩
  · exact .inr ⟨g, cap, rfl, h1, h2⟩
theorem LogAt.lv {w : World} {B p : Nat} {v : Value} {n : Nat} {bs : Bs} {last most : Nat} (h : LogAt w B p v n bs last most) : ∃ a c, v = .slice a n c := by
  rcases h.val with ⟨rfl, rfl⟩ | ⟨g, c, rfl, _⟩
  · exact ⟨_, _, rfl⟩
  · exact ⟨_, _, rfl⟩

theorem LogAt.cap {w : World} {B p : Nat} {a : Option Addr} {n c : Nat} {bs : Bs} {last most : Nat} (h : LogAt w B p (.slice a n c) n bs last most) : n ≤ c := by
  rcases h.val with ⟨hv, hn⟩ | ⟨g, c', hv, h1, _⟩
  · omega
  · simp only [Value.slice.injEq, true_and] at hv
    omega

def NewPost (w : World) (n : Int) (e : Ending) (w' : World) : Prop := ∃ p, e = .returned (.pointer (some ⟨p, 0, none⟩)) ∧ LogAt w' w.heap.size p (.slice none 0 0) 0 [] 0 n.toNat ∧ Below w.heap.size w w'
set_option maxRecDepth 100000 in
set_option maxHeartbeats 1000000 in
theorem new_bad (n : Int) (w : World) (h : n < 1 ∨ 4096 < n) : Calls Try.prog 11 #[.int .i64 n] w fun e w' => e = .returned (.pointer none) ∧ w' = w := by
  by_cases h1 : n < 1
  · go_enter Try.func11, Try.ntmps11
    go_wp2
    go_ret
    exact ⟨rfl, rfl⟩
  · have h2 : 4096 < n := by omega
    go_enter Try.func11, Try.ntmps11
    go_wp2
    go_ret
    exact ⟨rfl, rfl⟩
set_option maxRecDepth 100000 in
set_option maxHeartbeats 1000000 in
theorem new_any (n : Int) (w : World) (h1 : 1 ≤ n) (h2 : n ≤ 4096) : Calls Try.prog 11 #[.int .i64 n] w (NewPost w n) := by
  have H : Hid ((n.toNat : Int) = n) := Lib.hid (by omega)
  go_enter Try.func11, Try.ntmps11
  go_wp2
  go_ret
  exact ⟨w.heap.size, rfl, ⟨by rw [H.out]; exact heap_alloc_eq, ⟨rfl, World.ownsRow_nil _ _ _ _⟩, Nat.le_refl _, Nat.le_refl _, Nat.zero_le _, by omega⟩, (Below.refl _ _).alloc (Nat.le_refl _) _⟩

def SyncPost (w : World) (B p : Nat) (v : Value) (n : Nat) (bs : Bs) (most : Nat) (e : Ending) (w' : World) : Prop := e = .returned (.int .i64 0) ∧ LogAt w' B p v n bs n most ∧ Keeps (fun i => i = p) w w'
set_option maxRecDepth 100000 in
set_option maxHeartbeats 1000000 in
theorem sync_nil (w : World) : Calls Try.prog 57 #[.pointer none] w fun e w' => e = .returned (.int .i64 1) ∧ w' = w := by
  go_enter Try.func57, Try.ntmps57
  go_wp2
  go_ret
  exact ⟨rfl, rfl⟩
set_option maxRecDepth 100000 in
set_option maxHeartbeats 1000000 in
theorem sync_core (w : World) (B p : Nat) (v : Value) (n : Nat) (bs : Bs) (last : Int) (most : Nat) (hc : w.heap[p]? = some (.cells #[v, .int .i64 last, .int .i64 (most : Int)] 83 (0, 0))) (hr : OwnL w B v n bs) (hb : B ≤ p) (hn : n ≤ most) (hm : most ≤ 4096) :
    Calls Try.prog 57 #[.pointer (some ⟨p, 0, none⟩)] w (SyncPost w B p v n bs most) := by
  have HC := Lib.hid hc
  have HR := Lib.hid hr
  obtain ⟨a, c, rfl⟩ := hr.lv
  obtain ⟨c0, f0⟩ := cells_of_block hc 0 _ rfl
  obtain ⟨c1, f1⟩ := cells_of_block hc 1 _ rfl
  have hne : (Value.slice a n c).ownBlock ≠ some p := by
    intro e
    obtain ⟨_, _, ⟨hv, _⟩ | ⟨g, cap, cur, hv, _, hg, _⟩⟩ := hr
    · rw [hv] at e; simp [Value.ownBlock] at e
    · rw [hv] at e
      simp [Value.ownBlock] at e
      subst e
      rw [hc] at hg
      simp at hg
  have HNe := Lib.hid hne
  clear hc hr hne
  go_enter Try.func57, Try.ntmps57
  go_wp2
  go_ret
  refine ⟨rfl, ⟨?_, ⟨HR.out.1, ownsRow_of_heap HR.out.2 fun k hk => heap_setCell_ne fun e => HNe.out (by rw [hk]; exact congrArg some e)⟩, hb, Nat.le_refl _, hn, hm⟩, (Keeps.refl (fun i => i = p) w).setCell (p := ⟨p, 1, none⟩) (fun _ => rfl) _⟩
  rw [heap_setCell_same HC.out]; rfl
theorem sync_any (w : World) (B p : Nat) (v : Value) (n : Nat) (bs : Bs) (last most : Nat) (h : LogAt w B p v n bs last most) : Calls Try.prog 57 #[.pointer (some ⟨p, 0, none⟩)] w (SyncPost w B p v n bs most) :=
  sync_core w B p v n bs last most h.cells h.row h.base h.hn h.hm

set_option maxRecDepth 100000 in
set_option maxHeartbeats 1000000 in
theorem free_nil (w : World) : Calls Try.prog 39 #[.pointer none] w fun e w' => e = .returned (.int .i64 0) ∧ w' = w := by
  go_enter Try.func39, Try.ntmps39
  go_wp2
  go_ret
  exact ⟨rfl, rfl⟩
set_option maxRecDepth 100000 in
set_option maxHeartbeats 1000000 in
theorem free_any (w : World) (B p : Nat) (v : Value) (n : Nat) (bs : Bs) (last most : Nat) (h : LogAt w B p v n bs last most) : Calls Try.prog 39 #[.pointer (some ⟨p, 0, none⟩)] w fun e w' => e = .returned (.int .i64 ((most : Int) - (n : Int))) ∧ Below w.heap.size w w' := by
  have hn := h.hn
  have hm := h.hm
  obtain ⟨a, c, rfl⟩ := h.lv
  obtain ⟨c0, f0⟩ := cells_of_block h.cells 0 _ rfl
  obtain ⟨c2, f2⟩ := cells_of_block h.cells 2 _ rfl
  clear h
  go_enter Try.func39, Try.ntmps39
  go_wp2
  go_still (by kernel_rfl)
  go_wp2
  go_ret
  exact ⟨ret_int (IntWalk.i64_in _ (by omega)), (Below.refl _ w).drew⟩

theorem take_blk {bs : Bs} {n : Nat} (hl : bs.length = n * 64) (k : Nat) (hk : k < n) : bs.take ((k + 1) * 64) = bs.take (k * 64) ++ (bs.drop (k * 64)).take 64 ∧ ((bs.drop (k * 64)).take 64).length = 64 := by
  constructor
  · rw [show (k + 1) * 64 = k * 64 + 64 by omega, List.take_add]
  · rw [List.length_take, List.length_drop]; omega



def ForkPost (w : World) (n : Nat) (bs : Bs) (last most : Nat) (e : Ending) (w' : World) : Prop := ∃ q u, e = .returned (.pointer (some ⟨q, 0, none⟩)) ∧ LogAt w' w.heap.size q u n bs last most ∧ Below w.heap.size w w'
set_option maxRecDepth 100000 in
set_option maxHeartbeats 1000000 in
theorem fork_nil (w : World) : Calls Try.prog 35 #[.pointer none] w fun e w' => e = .returned (.pointer none) ∧ w' = w := by
  go_enter Try.func35, Try.ntmps35
  go_wp2
  go_ret
  exact ⟨rfl, rfl⟩
set_option maxRecDepth 100000 in
set_option maxHeartbeats 2000000 in
theorem fork_any (w : World) (B p : Nat) (v : Value) (n : Nat) (bs : Bs) (last most : Nat) (h : LogAt w B p v n bs last most) : Calls Try.prog 35 #[.pointer (some ⟨p, 0, none⟩)] w (ForkPost w n bs last most) := by
  have H := Lib.hid h
  have hn := h.hn
  have hm := h.hm
  have hl := h.hl
  obtain ⟨a, c, rfl⟩ := h.lv
  obtain ⟨c0, f0⟩ := cells_of_block h.cells 0 _ rfl
  obtain ⟨c1, f1⟩ := cells_of_block h.cells 1 _ rfl
  obtain ⟨c2, f2⟩ := cells_of_block h.cells 2 _ rfl
  clear h
  go_enter Try.func35, Try.ntmps35
  go_wp2
  refine wp_region_N (fun w' => (w'.cell? ⟨p, 0, none⟩ = some (.slice a n c)) ∧ (w'.cell? ⟨p, 1, none⟩ = some (.int .i64 (last : Int))) ∧ (w'.cell? ⟨p, 2, none⟩ = some (.int .i64 (most : Int))))
    [(true, 0), (true, 1), (true, 2), (true, 3), (true, 5), (true, 6), (true, 7), (true, 8), (true, 9), (true, 10), (true, 11), (true, 12), (false, 4), (true, 13), (false, 14), (true, 15)] (by kernel_rfl) (by kernel_rfl) rfl (by kernel_rfl) ?_ ?_
  · exact ⟨by first | go_keep | exact K0.out | exact K1.out | exact K2.out | exact (Below.cell ((Below.refl _ _).alloc (Nat.le_refl _) _) (World.block_lt_of_cell? _ _ K0.out)).trans K0.out | exact (Below.cell ((Below.refl _ _).alloc (Nat.le_refl _) _) (World.block_lt_of_cell? _ _ K1.out)).trans K1.out | exact (Below.cell ((Below.refl _ _).alloc (Nat.le_refl _) _) (World.block_lt_of_cell? _ _ K2.out)).trans K2.out, by first | go_keep | exact K0.out | exact K1.out | exact K2.out | exact (Below.cell ((Below.refl _ _).alloc (Nat.le_refl _) _) (World.block_lt_of_cell? _ _ K0.out)).trans K0.out | exact (Below.cell ((Below.refl _ _).alloc (Nat.le_refl _) _) (World.block_lt_of_cell? _ _ K1.out)).trans K1.out | exact (Below.cell ((Below.refl _ _).alloc (Nat.le_refl _) _) (World.block_lt_of_cell? _ _ K2.out)).trans K2.out, by first | go_keep | exact K0.out | exact K1.out | exact K2.out | exact (Below.cell ((Below.refl _ _).alloc (Nat.le_refl _) _) (World.block_lt_of_cell? _ _ K0.out)).trans K0.out | exact (Below.cell ((Below.refl _ _).alloc (Nat.le_refl _) _) (World.block_lt_of_cell? _ _ K1.out)).trans K1.out | exact (Below.cell ((Below.refl _ _).alloc (Nat.le_refl _) _) (World.block_lt_of_cell? _ _ K2.out)).trans K2.out⟩
  simp only [List.filterMap_cons, List.filterMap_nil, List.getElem?_cons_succ, List.getElem?_cons_zero, Option.map_some]
  iterate 12
   apply wpSeq_takeK _ (by first | rfl | (simp [Region.wanted, yielded]; done))
   · intro w' hS
     obtain ⟨s0, s1, s2⟩ := hS
     skip
     go_simp
     try rfl
   intro K hK
   go_simp
   refine hK _ ?_
   clear hK K
  refine wpSeq_alone ?_
  (go_wp2_with (go_at_call 58; refine (cloneL_any n bs _ _ (by omega) (H.out.row.isL.below (Below.refl _ w).drew)).mono ?_; rintro e w1 ⟨u, rfl, ho, hb⟩; obtain ⟨au, cu, rfl⟩ := ho.lv; have K0 := Lib.hid ((hb.cell (p := ⟨p, 0, none⟩) (World.block_lt_of_cell? w _ c0)).trans c0); have K1 := Lib.hid ((hb.cell (p := ⟨p, 1, none⟩) (World.block_lt_of_cell? w _ c1)).trans c1); have K2 := Lib.hid ((hb.cell (p := ⟨p, 2, none⟩) (World.block_lt_of_cell? w _ c2)).trans c2); have HO := Lib.hid ho; have HB := Lib.hid (show Below w.heap.size w w1 from ⟨hb.os, hb.tape, hb.output, hb.size, hb.block⟩); clear ho hb))
  refine QS_normal ⟨by first | go_keep | exact K0.out | exact K1.out | exact K2.out | exact (Below.cell ((Below.refl _ _).alloc (Nat.le_refl _) _) (World.block_lt_of_cell? _ _ K0.out)).trans K0.out | exact (Below.cell ((Below.refl _ _).alloc (Nat.le_refl _) _) (World.block_lt_of_cell? _ _ K1.out)).trans K1.out | exact (Below.cell ((Below.refl _ _).alloc (Nat.le_refl _) _) (World.block_lt_of_cell? _ _ K2.out)).trans K2.out, by first | go_keep | exact K0.out | exact K1.out | exact K2.out | exact (Below.cell ((Below.refl _ _).alloc (Nat.le_refl _) _) (World.block_lt_of_cell? _ _ K0.out)).trans K0.out | exact (Below.cell ((Below.refl _ _).alloc (Nat.le_refl _) _) (World.block_lt_of_cell? _ _ K1.out)).trans K1.out | exact (Below.cell ((Below.refl _ _).alloc (Nat.le_refl _) _) (World.block_lt_of_cell? _ _ K2.out)).trans K2.out, by first | go_keep | exact K0.out | exact K1.out | exact K2.out | exact (Below.cell ((Below.refl _ _).alloc (Nat.le_refl _) _) (World.block_lt_of_cell? _ _ K0.out)).trans K0.out | exact (Below.cell ((Below.refl _ _).alloc (Nat.le_refl _) _) (World.block_lt_of_cell? _ _ K1.out)).trans K1.out | exact (Below.cell ((Below.refl _ _).alloc (Nat.le_refl _) _) (World.block_lt_of_cell? _ _ K2.out)).trans K2.out⟩ (fun _ => ?_)
  apply wpSeq_takeK _ (by first | rfl | (simp [Region.wanted, yielded]; done))
  · intro w' hS
    obtain ⟨s0, s1, s2⟩ := hS
    skip
    go_simp
    try rfl
  intro K hK
  go_simp
  refine hK _ ?_
  clear hK K
  refine wpSeq_alone ?_
  go_wp2
  refine QS_normal ⟨by first | go_keep | exact K0.out | exact K1.out | exact K2.out | exact (Below.cell ((Below.refl _ _).alloc (Nat.le_refl _) _) (World.block_lt_of_cell? _ _ K0.out)).trans K0.out | exact (Below.cell ((Below.refl _ _).alloc (Nat.le_refl _) _) (World.block_lt_of_cell? _ _ K1.out)).trans K1.out | exact (Below.cell ((Below.refl _ _).alloc (Nat.le_refl _) _) (World.block_lt_of_cell? _ _ K2.out)).trans K2.out, by first | go_keep | exact K0.out | exact K1.out | exact K2.out | exact (Below.cell ((Below.refl _ _).alloc (Nat.le_refl _) _) (World.block_lt_of_cell? _ _ K0.out)).trans K0.out | exact (Below.cell ((Below.refl _ _).alloc (Nat.le_refl _) _) (World.block_lt_of_cell? _ _ K1.out)).trans K1.out | exact (Below.cell ((Below.refl _ _).alloc (Nat.le_refl _) _) (World.block_lt_of_cell? _ _ K2.out)).trans K2.out, by first | go_keep | exact K0.out | exact K1.out | exact K2.out | exact (Below.cell ((Below.refl _ _).alloc (Nat.le_refl _) _) (World.block_lt_of_cell? _ _ K0.out)).trans K0.out | exact (Below.cell ((Below.refl _ _).alloc (Nat.le_refl _) _) (World.block_lt_of_cell? _ _ K1.out)).trans K1.out | exact (Below.cell ((Below.refl _ _).alloc (Nat.le_refl _) _) (World.block_lt_of_cell? _ _ K2.out)).trans K2.out⟩ (fun _ => ?_)
  apply wpSeq_takeK _ (by first | rfl | (simp [Region.wanted, yielded]; done))
  · intro w' hS
    obtain ⟨s0, s1, s2⟩ := hS
    skip
    go_simp
    try rfl
  intro K hK
  go_simp
  refine hK _ ?_
  clear hK K
  refine wpSeq_end ?_
  go_wp2
  go_ret
  refine ⟨w1.heap.size, _, rfl, ⟨heap_alloc_eq, ⟨HO.out.1, ?_⟩, HB.out.size, hl, hn, hm⟩, HB.out.alloc HB.out.size _⟩
  exact HO.out.2.alloc _

end Go.Proofs.Ytobpohjhhelljaa
