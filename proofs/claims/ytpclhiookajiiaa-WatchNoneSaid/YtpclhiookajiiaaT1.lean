/- Layer 7 (watch): Take, the program's. -/
import Derived.Test.YtpclhiookajiiaaS1
import Derived.Test.YtpclhiookajiiaaReg
import Derived.Test.YtpclhiookajiiaaTree
import Derived.LoopTactic
import Derived.OwnWalk
namespace Go.Proofs.Ytpclhiookajiiaa
open Go.RowKit
set_option linter.unusedVariables false
set_option linter.unusedSimpArgs false


/-- a cache -/
structure CAt (w : World) (p m : Nat) (ms : List (GKey × Obj)) (ver : Int) : Prop where
  hd : w.heap[p]? = some (.cells #[.map (some m), .int .u64 ver] 97 (0, 0))
  mp : ∃ es c, w.heap[m]? = some (.map es c) ∧ MapRep es c encO ms
theorem CAt.kept {w w' : World} {p m : Nat} {ms : List (GKey × Obj)} {ver : Int} (h : CAt w p m ms ver) (hp : w'.heap[p]? = w.heap[p]?) (hm : w'.heap[m]? = w.heap[m]?) : CAt w' p m ms ver := by
  obtain ⟨es, c, h1, h2⟩ := h.mp
  exact ⟨hp.trans h.hd, es, c, hm.trans h1, h2⟩
theorem CAt.below {w w' : World} {p m : Nat} {ms : List (GKey × Obj)} {ver : Int} (h : CAt w p m ms ver) (hb : Below w.heap.size w w') : CAt w' p m ms ver := by
  obtain ⟨es, c, h1, h2⟩ := h.mp
  exact h.kept (hb.block _ (heap_lt h.hd)) (hb.block _ (heap_lt h1))
theorem CAt.ne {w : World} {p m : Nat} {ms : List (GKey × Obj)} {ver : Int} (h : CAt w p m ms ver) : p ≠ m := by
  obtain ⟨es, c, h1, _⟩ := h.mp
  rintro rfl
  rw [h.hd] at h1
  cases h1
/-- do the versions follow one by one? -/
def follows (v : Int) : List Ev → Bool
  | [] => true
  | e :: l => decide (e.version = v + 1) && follows (v + 1) l
/-- what a change makes of what is seen -/
def wdo (ms : List (GKey × Obj)) (e : Ev) : List (GKey × Obj) := if e.gone then assocDel (assocPut ms (keyO e.obj) e.obj) (keyO e.obj) else assocPut ms (keyO e.obj) e.obj
/-- the keys that are told -/
def tellK (out : List GKey) (e : Ev) : List GKey := if out.contains (keyO e.obj) then out else out ++ [keyO e.obj]
abbrev encB (b : Bool) : Value := .bool b
def TakePost (w : World) (p m : Nat) (ms : List (GKey × Obj)) (ver : Int) (l : List Ev) (e : Ending) (w' : World) : Prop :=
  if follows ver l then ∃ kv, e = .returned (.tuple #[kv, .int .i64 0]) ∧ OwnK w' w.heap.size kv (l.foldl tellK []) ∧ CAt w' p m (l.foldl wdo ms) (ver + l.length) ∧ Keeps (fun i => i = p ∨ i = m) w w'
  else e = .returned (.tuple #[.slice none 0 0, .int .i64 6]) ∧ Below w.heap.size w w'

theorem EvsAt.below {w w' : World} {a : Option Addr} {l : List Ev} (h : EvsAt w a l) (hk : ∀ x, a = some x → w'.heap[x.block]? = w.heap[x.block]?) : EvsAt w' a l := by
  rcases h with h | ⟨b, o, rfl, h⟩
  · exact .inl h
  · exact .inr ⟨b, o, rfl, fun i e hi k hk' => (World.cell?_of_block (a := ⟨b, o + i * 22 + k, none⟩) (hk ⟨b, o, none⟩ rfl)).trans (h i e hi k hk')⟩
theorem EvsAt.lt {w : World} {a : Option Addr} {l : List Ev} (h : EvsAt w a l) (hl : 0 < l.length) : ∃ b o, a = some ⟨b, o, none⟩ ∧ b < w.heap.size ∧ ∀ i e, l[i]? = some e → ∀ k, k < 22 → w.cell? ⟨b, o + i * 22 + k, none⟩ = (cellsEv e)[k]? := by
  rcases h with rfl | ⟨b, o, rfl, h⟩
  · simp at hl
  · refine ⟨b, o, rfl, ?_, h⟩
    have h0 := h 0 _ (List.getElem?_eq_getElem hl) 0 (by omega)
    rw [cellsEv_0] at h0
    exact World.block_lt_of_cell? w _ h0

/-- what the second loop keeps: what is seen, the keys that are noted as told, the keys that are told -/
structure TLoop (w wx : World) (p m tm : Nat) (cur : List (GKey × Obj)) (ver : Int) (told out : List GKey) (kv : Value) : Prop where
  ca : CAt wx p m cur ver
  tl : ∃ es c, wx.heap[tm]? = some (.map es c) ∧ MapRep es c encB (told.map fun k => (k, true))
  ok : OwnK wx w.heap.size kv out
  kp : Keeps (fun i => i = p ∨ i = m) w wx
  lt : p < w.heap.size ∧ m < w.heap.size ∧ w.heap.size ≤ tm
theorem ownsRow_cells {w : World} {B : Nat} {e : TypeId} {s : Nat} {v : Value} {n : Nat} {xs : List Value} (h : w.ownsRow B e s v n xs) {k : Nat} (hk : v.ownBlock = some k) : ∃ cs fr, w.heap[k]? = some (.cells cs e fr) := by
  obtain ⟨_, ⟨rfl, _⟩ | ⟨g, c, cur, rfl, _, hg, _⟩⟩ := h
  · simp [Value.ownBlock] at hk
  · simp [Value.ownBlock] at hk
    subst hk
    exact ⟨_, _, hg⟩
theorem TLoop.below {w wx wy : World} {p m tm : Nat} {cur : List (GKey × Obj)} {ver : Int} {told out : List GKey} {kv : Value} (h : TLoop w wx p m tm cur ver told out kv) (hb : Below wx.heap.size wx wy) : TLoop w wy p m tm cur ver told out kv := by
  obtain ⟨es, c, h1, h2⟩ := h.tl
  exact ⟨h.ca.below hb, ⟨es, c, (hb.block _ (heap_lt h1)).trans h1, h2⟩, ownsRow_of_heap h.ok fun k hk => hb.block k (h.ok.lt k hk).2, h.kp.trans (Keeps.of_below hb), h.lt⟩
theorem TLoop.drew {w wx : World} {p m tm : Nat} {cur : List (GKey × Obj)} {ver : Int} {told out : List GKey} {kv : Value} (h : TLoop w wx p m tm cur ver told out kv) : TLoop w wx.drew p m tm cur ver told out kv := h.below (Below.refl _ _).drew
theorem TLoop.setM {w wx : World} {p m tm : Nat} {cur cur' : List (GKey × Obj)} {ver : Int} {told out : List GKey} {kv : Value} (h : TLoop w wx p m tm cur ver told out kv) {es : Array MapEntry} {c : Nat} (hr : MapRep es c encO cur') : TLoop w (Wset wx m (.map es c)) p m tm cur' ver told out kv := by
  obtain ⟨es0, c0, h1, h2⟩ := h.tl
  obtain ⟨es1, c1, h3, _⟩ := h.ca.mp
  have hl := h.lt
  refine ⟨⟨(Wset_ne h.ca.ne).trans h.ca.hd, es, c, Wset_same (heap_lt h3), hr⟩, ⟨es0, c0, (Wset_ne (by omega)).trans h1, h2⟩, ownsRow_of_heap h.ok fun k hk => Wset_ne ?_, h.kp.wset (fun _ => .inr rfl) _, hl⟩
  have := (h.ok.lt k hk).1
  omega
theorem TLoop.setT {w wx : World} {p m tm : Nat} {cur : List (GKey × Obj)} {ver : Int} {told told' out : List GKey} {kv : Value} (h : TLoop w wx p m tm cur ver told out kv) {es : Array MapEntry} {c : Nat} (hr : MapRep es c encB (told'.map fun k => (k, true))) : TLoop w (Wset wx tm (.map es c)) p m tm cur ver told' out kv := by
  obtain ⟨es0, c0, h1, h2⟩ := h.tl
  obtain ⟨es1, c1, h3, h4⟩ := h.ca.mp
  have hl := h.lt
  refine ⟨⟨(Wset_ne (by omega)).trans h.ca.hd, es1, c1, (Wset_ne (by omega)).trans h3, h4⟩, ⟨es, c, Wset_same (heap_lt h1), hr⟩, ownsRow_of_heap h.ok fun k hk => Wset_ne ?_, h.kp.wset (fun hx => absurd hx (by omega)) _, hl⟩
  rintro rfl
  obtain ⟨cs, fr, hc⟩ := ownsRow_cells h.ok hk
  rw [h1] at hc
  cases hc
theorem TLoop.app {w wx wy : World} {p m tm : Nat} {cur : List (GKey × Obj)} {ver : Int} {told out out' : List GKey} {kv kv' : Value} (h : TLoop w wx p m tm cur ver told out kv) (ho : OwnK wy w.heap.size kv' out') (hg : wx.grownBy wy kv.ownBlock) : TLoop w wy p m tm cur ver told out' kv' := by
  have hl := h.lt
  obtain ⟨es0, c0, h1, h2⟩ := h.tl
  obtain ⟨es1, c1, h3, h4⟩ := h.ca.mp
  have hne : ∀ k, (∃ es c, wx.heap[k]? = some (.map es c)) ∨ k < w.heap.size → some k ≠ kv.ownBlock := by
    rintro k hk e
    obtain ⟨cs, fr, hc⟩ := ownsRow_cells h.ok e.symm
    rcases hk with ⟨es, c, hk⟩ | hk
    · rw [hk] at hc; cases hc
    · have := (h.ok.lt k e.symm).1; omega
  refine ⟨⟨(hg.block p (heap_lt h.ca.hd) (hne p (.inr hl.1))).trans h.ca.hd, es1, c1, (hg.block m (heap_lt h3) (hne m (.inr hl.2.1))).trans h3, h4⟩, ⟨es0, c0, (hg.block tm (heap_lt h1) (hne tm (.inl ⟨_, _, h1⟩))).trans h1, h2⟩, ho, ?_, hl⟩
  exact h.kp.step (grownBy_keeps' hg) (fun i hi _ e => hne i (.inr hi) e)
theorem undMapB : Try.prog.underlying 98 = some (.map 45 4) := by kernel_rfl
theorem zeroBool (w : World) : (zeroValue 4).run Try.prog w = .ok (encB false) w := by kernel_rfl
theorem told_assoc (out : List GKey) (k : GKey) : assoc (out.map fun k => (k, true)) k = if out.contains k then some true else none := by
  unfold assoc
  induction out with
  | nil => simp
  | cons a l ih =>
    by_cases h : k = a
    · subst h; simp
    · have h2 : ¬ a = k := fun e => h e.symm
      simp only [List.map_cons, List.find?_cons, h, decide_false, ih, List.contains_cons]
      simp [h]
theorem told_has (out : List GKey) (k : GKey) : (assoc (out.map fun k => (k, true)) k).getD false = out.contains k := by
  rw [told_assoc]
  cases out.contains k <;> rfl
theorem told_put {out : List GKey} {k : GKey} (h : out.contains k = false) : assocPut (out.map fun k => (k, true)) k true = (out ++ [k]).map fun k => (k, true) := by
  have : (out.map fun k => (k, true)).findIdx? (fun p => decide (k = p.1)) = none := by
    rw [List.findIdx?_eq_none_iff]
    intro x hx
    obtain ⟨y, hy, rfl⟩ := List.mem_map.1 hx
    simp at h ⊢
    rintro rfl
    exact h hy
  simp [assocPut, this]
theorem fold_next {α β : Type} (f : β → α → β) (b : β) {l : List α} {j : Nat} {e : α} (he : l[j]? = some e) : (l.take (j + 1)).foldl f b = f ((l.take j).foldl f b) e := by
  rw [List.take_add_one, he]
  simp
theorem wdo_eq {ms : List (GKey × Obj)} {e : Ev} {g : Bool} (h : e.gone = g) : wdo ms e = if g then assocDel (assocPut ms (keyO e.obj) e.obj) (keyO e.obj) else assocPut ms (keyO e.obj) e.obj := by unfold wdo; rw [h]
theorem tellK_old {out : List GKey} {e : Ev} (h : out.contains (keyO e.obj) = true) : tellK out e = out := by unfold tellK; rw [h]; rfl
theorem tellK_new {out : List GKey} {e : Ev} (h : out.contains (keyO e.obj) = false) : tellK out e = out ++ [keyO e.obj] := by unfold tellK; rw [h]; rfl
theorem tell_len (l : List Ev) : ∀ out : List GKey, (l.foldl tellK out).length ≤ out.length + l.length := by
  induction l with
  | nil => intro out; simp
  | cons e l ih =>
    intro out
    have h1 := ih (tellK out e)
    have h2 : (tellK out e).length ≤ out.length + 1 := by unfold tellK; split <;> simp
    simp only [List.foldl_cons, List.length_cons]
    omega

set_option maxRecDepth 100000 in
set_option maxHeartbeats 4000000 in
theorem take_any (p m : Nat) (ms : List (GKey × Obj)) (ver : Int) (l : List Ev) (a : Option Addr) (c : Nat) (w : World) (h : CAt w p m ms ver) (hl : EvsAt w a l) (hn : l.length ≤ 100000) (hv : 0 ≤ ver ∧ ver ≤ 1000000000)
    (hap : ∀ x, a = some x → x.block ≠ p ∧ x.block ≠ m) :
    Calls Try.prog 21 #[.pointer (some ⟨p, 0, none⟩), .slice a l.length c] w (TakePost w p m ms ver l) := by
  have HZE : cellsEv evZ = _ := evZ_cells
  simp only [noText] at HZE
  have HZE := Lib.hid HZE
  have H := Lib.hid h
  have HL := Lib.hid hl
  have HAP := Lib.hid hap
  obtain ⟨c1, f1⟩ := cells_of_block h.hd 1 (.int .u64 ver) rfl
  clear h hl hap
  go_enter Try.func21, Try.ntmps21
  go_wp2
  go_loopw [22, 6] (fun i nx wr => ∃ j : Nat, j ≤ l.length ∧ i = .int .i64 j ∧ nx = .int .u64 (ver + j) ∧ Hid (Below w.heap.size w wr) ∧ Hid (follows (ver + j) (l.drop j) = follows ver l)) (fun i _ _ => l.length - (intOf i).toNat)
  case atStart => exact ⟨0, Nat.zero_le _, rfl, by simp, Lib.hid (Below.refl _ _), Lib.hid (by simp)⟩
  case round =>
    obtain ⟨j, hj, rfl, rfl, hB, hF⟩ := hrel
    by_cases hjl : j < l.length
    · obtain ⟨b, o, rfl, hlt, hcell⟩ := HL.out.lt (by omega)
      obtain ⟨e, he⟩ : ∃ e, l[j]? = some e := ⟨_, List.getElem?_eq_getElem hjl⟩
      have hdrop : l.drop j = e :: l.drop (j + 1) := by
        rw [List.drop_eq_getElem_cons hjl]
        rw [List.getElem?_eq_getElem hjl] at he
        cases he
        rfl
      have hf : (decide (e.version = ver + j + 1) && follows (ver + j + 1) (l.drop (j + 1))) = follows ver l := by
        have := hF.out
        rw [hdrop] at this
        exact this
      have hcj : ∀ k, k < 22 → wr.cell? ⟨b, o + j * 22 + k, none⟩ = (cellsEv e)[k]? := fun k hk => (hB.out.cell (p := ⟨b, o + j * 22 + k, none⟩) hlt).trans (hcell j e he k hk)
      have HC := Lib.hid hcj
      have HF2 := Lib.hid hf
      have hjl' : (j : Int) < l.length := by omega
      have hq : (wr.alloc (.cells (cellsEv evZ) 69)).heap[wr.heap.size]? = some (.cells (cellsEv evZ) 69 (0, 0)) := heap_alloc_eq
      conv at hq => lhs; rw [HZE.out]
      have HQ := Lib.hid hq
      have hbox := new_box wr (.cells (cellsEv evZ) 69) (cellsEv e) 69
      have hbn := below_new wr (.cells (cellsEv evZ) 69) (.cells (cellsEv e) 69 (0, 0))
      obtain ⟨W1, hW1⟩ : ∃ W, W = Wset (wr.alloc (.cells (cellsEv evZ) 69)) wr.heap.size (.cells (cellsEv e) 69 (0, 0)) := ⟨_, rfl⟩
      rw [← hW1] at hbox hbn
      have HW1 := Lib.hid hW1
      obtain ⟨e0, g0⟩ := cells_of_block hbox 0 (.int .u64 e.version) (cellsEv_0 e)
      have HB1 := Lib.hid (hB.out.trans (hbn.mono hB.out.size))
      clear hq hbn hW1 hcell hcj hf hF hbox
      by_cases hv2 : e.version = ver + j + 1
      · go_wp2_with (first
          | refine wpList_loadEvAt rfl _ rfl b (o + j * 22) rfl e HC.out ?_
          | (refine wpList_storeEv rfl _ _ rfl wr.heap.size rfl e evZ rfl HQ.out ?_; rw [← HZE.out, ← HW1.out])
          | fail)
        have hfo : follows (ver + j + 1) (l.drop (j + 1)) = follows ver l := by have := HF2.out; rw [decide_eq_true hv2, Bool.true_and] at this; exact this
        refine ⟨⟨j + 1, by omega, by simp, by simp; omega, HB1, Lib.hid ?_⟩, by simp [intOf]; omega⟩
        rw [← hfo]
        congr 1
        push_cast
        omega
      · have hfo : follows ver l = false := by have := HF2.out; rw [decide_eq_false hv2, Bool.false_and] at this; exact this.symm
        have hv3 : ¬ e.version = ver + (j : Int) + 1 := hv2
        go_wp2_with (first
          | refine wpList_loadEvAt rfl _ rfl b (o + j * 22) rfl e HC.out ?_
          | (refine wpList_storeEv rfl _ _ rfl wr.heap.size rfl e evZ rfl HQ.out ?_; rw [← HZE.out, ← HW1.out])
          | fail)
        go_ret2
        unfold TakePost
        rw [hfo]
        exact ⟨rfl, HB1.out⟩
    · have hje : j = l.length := by omega
      subst hje
      have hfo : follows ver l = true := by have := hF.out; rw [List.drop_length] at this; exact this.symm
      clear hF hjl hj
      have hmm := @run_makeMap Try.prog
      have hT0 : TLoop w (wr.alloc (.map #[] 0)) p m wr.heap.size ms ver [] [] (.slice none 0 0) :=
        ⟨H.out.below (hB.out.alloc hB.out.size _), ⟨#[], 0, heap_alloc_eq, MapRep.nil _⟩, World.ownsRow_nil _ _ _ _, Keeps.of_below (hB.out.alloc hB.out.size _), heap_lt H.out.hd, (by obtain ⟨_, _, h3, _⟩ := H.out.mp; exact heap_lt h3), hB.out.size⟩
      have HT0 := Lib.hid hT0
      clear hT0
      go_wp2
      clear c1 f1
      generalize hWm : wr.alloc (.map #[] 0) = Wm at *
      generalize hTm : wr.heap.size = tm at *
      clear hWm hB hTm wr
      go_loopw [36, 9] (fun i kv wr => ∃ j : Nat, j ≤ l.length ∧ i = .int .i64 j ∧ Hid (TLoop w wr p m tm ((l.take j).foldl wdo ms) ver ((l.take j).foldl tellK []) ((l.take j).foldl tellK []) kv)) (fun i _ _ => l.length - (intOf i).toNat)
      case atStart => exact ⟨0, Nat.zero_le _, rfl, HT0⟩
      case round =>
        obtain ⟨j, hj, rfl, hT⟩ := hrel
        by_cases hjl : j < l.length
        · obtain ⟨b, o, rfl, hlt, hcell⟩ := HL.out.lt (by omega)
          obtain ⟨e, he⟩ : ∃ e, l[j]? = some e := ⟨_, List.getElem?_eq_getElem hjl⟩
          have hap := HAP.out _ rfl
          have hcj : ∀ k, k < 22 → wr.cell? ⟨b, o + j * 22 + k, none⟩ = (cellsEv e)[k]? := fun k hk => (World.cell?_of_block (a := ⟨b, o + j * 22 + k, none⟩) (hT.out.kp.block b hlt (by simp only at hap; omega))).trans (hcell j e he k hk)
          have HC := Lib.hid hcj
          have hjl' : (j : Int) < l.length := by omega
          have hq : (wr.alloc (.cells (cellsEv evZ) 69)).heap[wr.heap.size]? = some (.cells (cellsEv evZ) 69 (0, 0)) := heap_alloc_eq
          conv at hq => lhs; rw [HZE.out]
          have HQ := Lib.hid hq
          have hbox := new_box wr (.cells (cellsEv evZ) 69) (cellsEv e) 69
          have hbn := below_new wr (.cells (cellsEv evZ) 69) (.cells (cellsEv e) 69 (0, 0))
          obtain ⟨W1, hW1⟩ : ∃ W, W = Wset (wr.alloc (.cells (cellsEv evZ) 69)) wr.heap.size (.cells (cellsEv e) 69 (0, 0)) := ⟨_, rfl⟩
          rw [← hW1] at hbox hbn
          have HW1 := Lib.hid hW1
          have HT1 := Lib.hid (hT.out.below hbn)
          have HBX := Lib.hid (EvBox.mk hbox)
          generalize hbx : wr.heap.size = bx at *
          clear hq hbn hW1 hcell hcj hbox hT
          go_wp2_with (first
            | refine wpList_loadEvAt rfl _ rfl b (o + j * 22) rfl e HC.out ?_
            | (refine wpList_storeEv rfl _ _ rfl bx rfl e evZ rfl HQ.out ?_; rw [← HZE.out, ← HW1.out])
            | refine wpList_loadObjAt rfl _ rfl bx 2 rfl e.obj HBX.out.obj ?_
            | (go_at_call 46; refine (key_any e.obj _).mono ?_; rintro e2 w2 ⟨rfl, hb⟩; have HT2 := Lib.hid (HT1.out.below hb); have HBX2 := Lib.hid (EvBox.mk ((hb.block _ (heap_lt HBX.out.heap)).trans HBX.out.heap)); clear hb HT1 HBX HW1 HQ HC)
            | fail)
          have hkb : (w2.alloc (.cells #[.int .u8 e.obj.kind, .string e.obj.name] 45)).heap[w2.heap.size]? = some (.cells #[.int .u8 e.obj.kind, .string e.obj.name] 45 (0, 0)) := heap_alloc_eq
          have hb3 : Below w2.heap.size w2 (w2.alloc (.cells #[.int .u8 e.obj.kind, .string e.obj.name] 45)) := (Below.refl _ _).alloc (Nat.le_refl _) _
          have HT3 := Lib.hid (HT2.out.below hb3)
          have HBX3 := Lib.hid (EvBox.mk ((hb3.block _ (heap_lt HBX2.out.heap)).trans HBX2.out.heap))
          clear hb3 HT2 HBX2 hbx
          generalize hkbN : w2.heap.size = kb at *
          generalize hW3 : w2.alloc (.cells #[.int .u8 e.obj.kind, .string e.obj.name] 45) = W3 at *
          clear hkbN hW3 w2
          obtain ⟨es, cl, hm3, hr⟩ := HT3.out.ca.mp
          obtain ⟨es', cl', hr', hup⟩ := run_mapUpdate keyOK undMap hr (keyO e.obj) e.obj
          have hU : ∀ x : World, x.heap[m]? = some (.map es cl) → (Instr.mapUpdate 73 (.map (some m)) (.agg #[.int .u8 e.obj.kind, .string e.obj.name]) (.agg (cellsO e.obj))).run Try.prog x = .ok () (Wset x m (.map es' cl')) := fun x hx => hup m x hx
          have HR' := Lib.hid hr'
          obtain ⟨p0, q0⟩ := cells_of_block HT3.out.ca.hd 0 (.map (some m)) rfl
          obtain ⟨k0, j0⟩ := cells_of_block hkb 0 (.int .u8 e.obj.kind) rfl
          obtain ⟨k1, j1⟩ := cells_of_block hkb 1 (.string e.obj.name) rfl
          have hUd := hU W3.drew hm3
          have HT4' := Lib.hid (HT3.out.drew.setM hr')
          have hbx4 : (Wset W3.drew m (.map es' cl')).heap[bx]? = some (.cells (cellsEv e) 69 (0, 0)) := (Wset_ne (by rintro rfl; have := HBX3.out.heap; rw [hm3] at this; cases this)).trans HBX3.out.heap
          have hkb4 : (Wset W3.drew m (.map es' cl')).heap[kb]? = some (.cells #[.int .u8 e.obj.kind, .string e.obj.name] 45 (0, 0)) := (Wset_ne (by rintro rfl; rw [hm3] at hkb; cases hkb)).trans hkb
          obtain ⟨w4, hw4⟩ : ∃ w4, w4 = Wset W3.drew m (.map es' cl') := ⟨_, rfl⟩
          rw [← hw4] at hbx4 hkb4
          have HT4 : Hid (TLoop w w4 p m tm (assocPut ((l.take j).foldl wdo ms) (keyO e.obj) e.obj) ver ((l.take j).foldl tellK []) ((l.take j).foldl tellK []) u9) := by rw [hw4]; exact HT4'
          have HW4 := Lib.hid hw4
          clear hup hr' hr hw4 HR' HT4'
          refine wp_region_T 7 (by kernel_rfl) (by kernel_rfl) ?_
          simp only [List.take_succ_cons, List.take_zero, List.drop_succ_cons, List.drop_zero]
          refine wpStill_step (fun K hK => ?_)
          go_simp
          refine hK _ ?_
          clear hK K
          refine wpStill_step (fun K hK => ?_)
          go_simp
          refine hK _ ?_
          clear hK K
          refine wpStill_step (fun K hK => ?_)
          go_simp
          refine hK _ ?_
          clear hK K
          refine wpStill_step (fun K hK => ?_)
          go_simp
          refine hK _ ?_
          clear hK K
          refine wpStill_step (fun K hK => ?_)
          go_simp
          refine hK _ ?_
          clear hK K
          refine wpStill_step (fun K hK => ?_)
          go_simp
          refine hK _ ?_
          clear hK K
          refine wpStill_val (by first | rfl | (simp [Region.wanted, yielded]; done)) (exec_loadObjAt e.obj rfl rfl (fun i => HBX3.out.obj i)) ?_
          refine wpStill_nil ?_
          refine wpList_upd rfl _ _ _ _ rfl (some m) _ _ rfl rfl rfl hUd ?_
          rw [← HW4.out]
          clear hUd hU HW4 HT3 HBX3 hkb hm3 p0 q0 k0 j0 k1 j1
          clear W3
          obtain ⟨k0, j0⟩ := cells_of_block hkb4 0 (.int .u8 e.obj.kind) rfl
          obtain ⟨k1, j1⟩ := cells_of_block hkb4 1 (.string e.obj.name) rfl
          obtain ⟨g1, y1⟩ := cells_of_block hbx4 1 (.bool e.gone) (cellsEv_1 e)
          cases hgn : e.gone with
          | false =>
            rw [hgn] at g1
            have HT5 := HT4
            have hkb5 := hkb4
            clear HT4 hkb4 hbx4
            obtain ⟨et, ct, ht5, hrt⟩ := HT5.out.tl
            have hLk : ∀ x : World, x.heap[tm]? = some (.map et ct) → (Instr.lookup 98 (.map (some tm)) (.agg #[.int .u8 e.obj.kind, .string e.obj.name]) false).run Try.prog x = .ok (.bool (((l.take j).foldl tellK []).contains (keyO e.obj))) x := fun x hx => by
              have := run_lookup keyOK undMapB false zeroBool hrt (keyO e.obj) x hx
              rw [told_has] at this
              exact this
            cases hct : ((l.take j).foldl tellK []).contains (keyO e.obj) with
            | true =>
              rw [hct] at hLk
              go_wp2
              refine ⟨⟨j + 1, by omega, by simp, Lib.hid ?_⟩, by simp [intOf]; omega⟩
              rw [fold_next wdo ms he, fold_next tellK [] he, wdo_eq hgn, tellK_old hct]
              exact HT5.out
            | false =>
              rw [hct] at hLk
              obtain ⟨et', ct', hrt', hut⟩ := run_mapUpdate keyOK undMapB hrt (keyO e.obj) true
              have hUt : ∀ x : World, x.heap[tm]? = some (.map et ct) → (Instr.mapUpdate 98 (.map (some tm)) (.agg #[.int .u8 e.obj.kind, .string e.obj.name]) (.bool true)).run Try.prog x = .ok () (Wset x tm (.map et' ct')) := fun x hx => hut tm x hx
              rw [told_put hct] at hrt'
              have HT6 := Lib.hid (HT5.out.setT hrt')
              have hkb6 : (Wset w4 tm (.map et' ct')).heap[kb]? = some (.cells #[.int .u8 e.obj.kind, .string e.obj.name] 45 (0, 0)) := (Wset_ne (by rintro rfl; rw [ht5] at hkb5; cases hkb5)).trans hkb5
              obtain ⟨w6, hw6⟩ : ∃ w6, w6 = Wset w4 tm (.map et' ct') := ⟨_, rfl⟩
              obtain ⟨k6, j6⟩ := cells_of_block hkb6 0 (.int .u8 e.obj.kind) rfl
              obtain ⟨k7, j7⟩ := cells_of_block hkb6 1 (.string e.obj.name) rfl
              have htl := tell_len (l.take j) []
              have htj : (l.take j).length ≤ l.length := by rw [List.length_take]; omega
              simp only [List.length_nil, Nat.zero_add] at htl
              rw [← hw6] at hkb6 HT6 k6 j6 k7 j7
              have HW6 := Lib.hid hw6
              have hk60 : (Wset w4 tm (.map et' ct')).cell? ⟨kb, 0, none⟩ = some (.int .u8 e.obj.kind) := hw6 ▸ k6
              have hk61 : (Wset w4 tm (.map et' ct')).cell? ⟨kb, 1, none⟩ = some (.string e.obj.name) := hw6 ▸ k7
              clear hut hrt' hrt hw6
              go_wp2_with (first
                | (at_builtin; rw [← HW6.out]; refine wpList_app_key rfl _ _ rfl w.heap.size u9 ((l.take j).foldl tellK []) rfl ((HT6.out.below ((Below.refl _ _).alloc (Nat.le_refl _) _)).ok) w6.heap.size (keyO e.obj) rfl heap_alloc_eq (by omega) (by have := HT6.out.kp.size; simp; omega) ?_; intro kv w7 hok hgr; have HT7 := Lib.hid ((HT6.out.below ((Below.refl _ _).alloc (Nat.le_refl _) _)).app hok hgr); clear hok hgr)
                | fail)
              refine ⟨⟨j + 1, by omega, by simp, Lib.hid ?_⟩, by simp [intOf]; omega⟩
              rw [fold_next wdo ms he, fold_next tellK [] he, wdo_eq hgn, tellK_new hct]
              exact HT7.out
          | true =>
            rw [hgn] at g1
            obtain ⟨es, cl, hm4, hr⟩ := HT4.out.ca.mp
            obtain ⟨es', cl', hr', hdel⟩ := run_mapDelete keyOK undMap hr (keyO e.obj)
            obtain ⟨p0, q0⟩ := cells_of_block HT4.out.ca.hd 0 (.map (some m)) rfl
            have hD : (Builtin.delete_ #[73, 45] 0 #[.map (some m), .agg #[.int .u8 e.obj.kind, .string e.obj.name]]).run Try.prog w4.drew = .ok (.tuple #[]) (Wset w4.drew m (.map es' cl')) := hdel m w4.drew #[73, 45] 0 rfl hm4
            have HT5 := Lib.hid (HT4.out.drew.setM hr')
            have hkb5 : (Wset w4.drew m (.map es' cl')).heap[kb]? = some (.cells #[.int .u8 e.obj.kind, .string e.obj.name] 45 (0, 0)) := (Wset_ne (by rintro rfl; rw [hm4] at hkb4; cases hkb4)).trans hkb4
            obtain ⟨w5, hw5⟩ : ∃ w5, w5 = Wset w4.drew m (.map es' cl') := ⟨_, rfl⟩
            rw [← hw5] at HT5 hkb5 hD
            clear hdel hr hr' hw5
            go_upto_region 19 with fail
            refine wp_region_T 5 (by kernel_rfl) (by kernel_rfl) ?_
            simp only [List.take_succ_cons, List.take_zero, List.drop_succ_cons, List.drop_zero]
            refine wpStill_step (fun K hK => ?_)
            go_simp
            refine hK _ ?_
            clear hK K
            refine wpStill_step (fun K hK => ?_)
            go_simp
            refine hK _ ?_
            clear hK K
            refine wpStill_step (fun K hK => ?_)
            go_simp
            refine hK _ ?_
            clear hK K
            refine wpStill_step (fun K hK => ?_)
            go_simp
            refine hK _ ?_
            clear hK K
            refine wpStill_step (fun K hK => ?_)
            go_simp
            refine hK _ ?_
            clear hK K
            refine wpStill_nil ?_
            refine wpList_del rfl _ _ _ _ rfl (some m) _ rfl rfl hD ?_
            clear hD k0 j0 k1 j1 g1 y1 p0 q0 HT4 hbx4 hkb4 hm4
            clear w4
            obtain ⟨k0, j0⟩ := cells_of_block hkb5 0 (.int .u8 e.obj.kind) rfl
            obtain ⟨k1, j1⟩ := cells_of_block hkb5 1 (.string e.obj.name) rfl
            obtain ⟨et, ct, ht5, hrt⟩ := HT5.out.tl
            have hLk : ∀ x : World, x.heap[tm]? = some (.map et ct) → (Instr.lookup 98 (.map (some tm)) (.agg #[.int .u8 e.obj.kind, .string e.obj.name]) false).run Try.prog x = .ok (.bool (((l.take j).foldl tellK []).contains (keyO e.obj))) x := fun x hx => by
              have := run_lookup keyOK undMapB false zeroBool hrt (keyO e.obj) x hx
              rw [told_has] at this
              exact this
            cases hct : ((l.take j).foldl tellK []).contains (keyO e.obj) with
            | true =>
              rw [hct] at hLk
              go_wp2
              refine ⟨⟨j + 1, by omega, by simp, Lib.hid ?_⟩, by simp [intOf]; omega⟩
              rw [fold_next wdo ms he, fold_next tellK [] he, wdo_eq hgn, tellK_old hct]
              exact HT5.out
            | false =>
              rw [hct] at hLk
              obtain ⟨et', ct', hrt', hut⟩ := run_mapUpdate keyOK undMapB hrt (keyO e.obj) true
              have hUt : ∀ x : World, x.heap[tm]? = some (.map et ct) → (Instr.mapUpdate 98 (.map (some tm)) (.agg #[.int .u8 e.obj.kind, .string e.obj.name]) (.bool true)).run Try.prog x = .ok () (Wset x tm (.map et' ct')) := fun x hx => hut tm x hx
              rw [told_put hct] at hrt'
              have HT6 := Lib.hid (HT5.out.setT hrt')
              have hkb6 : (Wset w5 tm (.map et' ct')).heap[kb]? = some (.cells #[.int .u8 e.obj.kind, .string e.obj.name] 45 (0, 0)) := (Wset_ne (by rintro rfl; rw [ht5] at hkb5; cases hkb5)).trans hkb5
              obtain ⟨w6, hw6⟩ : ∃ w6, w6 = Wset w5 tm (.map et' ct') := ⟨_, rfl⟩
              obtain ⟨k6, j6⟩ := cells_of_block hkb6 0 (.int .u8 e.obj.kind) rfl
              obtain ⟨k7, j7⟩ := cells_of_block hkb6 1 (.string e.obj.name) rfl
              have htl := tell_len (l.take j) []
              have htj : (l.take j).length ≤ l.length := by rw [List.length_take]; omega
              simp only [List.length_nil, Nat.zero_add] at htl
              rw [← hw6] at hkb6 HT6 k6 j6 k7 j7
              have HW6 := Lib.hid hw6
              have hk60 : (Wset w5 tm (.map et' ct')).cell? ⟨kb, 0, none⟩ = some (.int .u8 e.obj.kind) := hw6 ▸ k6
              have hk61 : (Wset w5 tm (.map et' ct')).cell? ⟨kb, 1, none⟩ = some (.string e.obj.name) := hw6 ▸ k7
              clear hut hrt' hrt hw6
              go_wp2_with (first
                | (at_builtin; rw [← HW6.out]; refine wpList_app_key rfl _ _ rfl w.heap.size u9 ((l.take j).foldl tellK []) rfl ((HT6.out.below ((Below.refl _ _).alloc (Nat.le_refl _) _)).ok) w6.heap.size (keyO e.obj) rfl heap_alloc_eq (by omega) (by have := HT6.out.kp.size; simp; omega) ?_; intro kv w7 hok hgr; have HT7 := Lib.hid ((HT6.out.below ((Below.refl _ _).alloc (Nat.le_refl _) _)).app hok hgr); clear hok hgr)
                | fail)
              refine ⟨⟨j + 1, by omega, by simp, Lib.hid ?_⟩, by simp [intOf]; omega⟩
              rw [fold_next wdo ms he, fold_next tellK [] he, wdo_eq hgn, tellK_new hct]
              exact HT7.out
        · have hje : j = l.length := by omega
          subst hje
          have hT2 := hT.out
          rw [List.take_length] at hT2
          have HT8 := Lib.hid hT2
          obtain ⟨p1, q1⟩ := cells_of_block hT2.ca.hd 1 (.int .u64 ver) rfl
          clear hT hT2 hj hjl
          go_wp2
          go_ret2
          unfold TakePost
          rw [hfo]
          obtain ⟨es9, cl9, hm9, hr9⟩ := HT8.out.ca.mp
          have hlt9 := HT8.out.lt
          have hp9 := HT8.out.ca.hd
          have hne9 := HT8.out.ca.ne
          refine ⟨u9, rfl, ?_, ⟨?_, es9, cl9, ?_, hr9⟩, ?_⟩
          · refine ownsRow_of_heap HT8.out.ok fun k hk => heap_setCell_ne (a := ⟨p, 1, none⟩) ?_
            have := (HT8.out.ok.lt k hk).1
            show k ≠ p
            omega
          · exact heap_setCell_same hp9
          · exact (heap_setCell_ne (a := ⟨p, 1, none⟩) (fun e => hne9 e.symm)).trans hm9
          · exact HT8.out.kp.setCell (fun _ => .inl rfl) _

end Go.Proofs.Ytpclhiookajiiaa
