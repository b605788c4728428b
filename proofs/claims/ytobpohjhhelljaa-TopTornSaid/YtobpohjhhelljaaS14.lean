/- Layer 6 (store): Fork: the program's. -/
import Derived.Test.YtobpohjhhelljaaS11
import Derived.Maps.RangeRun
import Derived.Laws.IdiomRangeMap
import Derived.LoopTactic
namespace Go.Proofs.Ytobpohjhhelljaa
open Go.RowKit
set_option linter.unusedVariables false
set_option linter.unusedSimpArgs false

open Go.ChangeMaps (setBlock) in
theorem setBlock_same {w : World} {r : Nat} {o : Go.Obj} (h : r < w.heap.size) : (setBlock w r o).heap[r]? = some o := by simp [setBlock, h]
open Go.ChangeMaps (setBlock) in
theorem setBlock_ne {w : World} {r c : Nat} {o : Go.Obj} (h : c ≠ r) : (setBlock w r o).heap[c]? = w.heap[c]? := by
  simp only [setBlock]; rw [Array.getElem?_setIfInBounds_ne (fun e => h e.symm)]
theorem nodup_inj {α β : Type} {f : α → β} : ∀ {l : List α}, (l.map f).Nodup → ∀ {a b : α}, a ∈ l → b ∈ l → f a = f b → a = b
  | x :: l, h, a, b, ha, hb, e => by
    simp only [List.map_cons, List.nodup_cons] at h
    rcases List.mem_cons.1 ha with ha | ha
    · rcases List.mem_cons.1 hb with hb | hb
      · exact ha.trans hb.symm
      · exact absurd (List.mem_map.2 ⟨b, hb, by rw [← e, ha]⟩) h.1
    · rcases List.mem_cons.1 hb with hb | hb
      · exact absurd (List.mem_map.2 ⟨a, ha, by rw [e, hb]⟩) h.1
      · exact nodup_inj h.2 ha hb e
theorem rep_entry {es : Array MapEntry} {clock : Nat} {l : List (GKey × Obj)} (h : MapRep es clock encO l) {e : MapEntry} (he : e ∈ es.toList) : ∃ x ∈ l, e.key = encKey x.1 ∧ e.val = encO x.2 := by
  have h1 : (e.key, e.val) ∈ es.toList.map (fun e => (e.key, e.val)) := List.mem_map.2 ⟨e, he, rfl⟩
  rw [h.eq] at h1
  obtain ⟨x, hp, heq⟩ := List.mem_map.1 h1
  simp only [Prod.mk.injEq] at heq
  exact ⟨x, hp, heq.1.symm, heq.2.symm⟩
theorem rep_of {es : Array MapEntry} {clock : Nat} {l : List (GKey × Obj)} (h : MapRep es clock encO l) {x : GKey × Obj} (hx : x ∈ l) : ∃ e ∈ es.toList, e.key = encKey x.1 := by
  have h1 : (encKey x.1, encO x.2) ∈ l.map (fun p => (encKey p.1, encO p.2)) := List.mem_map.2 ⟨x, hx, rfl⟩
  rw [← h.eq] at h1
  obtain ⟨e, he, heq⟩ := List.mem_map.1 h1
  simp only [Prod.mk.injEq] at heq
  exact ⟨e, he, heq.1⟩
theorem rep_keys {es : Array MapEntry} {clock : Nat} {l : List (GKey × Obj)} (h : MapRep es clock encO l) : (es.toList.map (·.key)).Nodup := by
  have e1 : es.toList.map (·.key) = l.map (fun p => encKey p.1) := by
    have := congrArg (List.map Prod.fst) h.eq
    simpa [List.map_map, Function.comp_def] using this
  rw [e1]
  have h2 := h.keys
  clear h e1
  induction l with
  | nil => simp
  | cons a l ih =>
    simp only [List.map_cons, List.nodup_cons] at h2 ⊢
    refine ⟨fun hm => h2.1 ?_, ih h2.2⟩
    obtain ⟨x, hx, e⟩ := List.mem_map.1 hm
    exact List.mem_map.2 ⟨x, hx, encKey_inj e⟩
/-- what the loop has seen: p, in its order -/
structure Seen (es : Array MapEntry) (l : List (GKey × Obj)) (seen : Array Nat) (p : List (GKey × Obj)) : Prop where
  nd : p.Nodup
  sub : ∀ x ∈ p, x ∈ l
  ex : ∀ e ∈ es.toList, ∀ x ∈ l, e.key = encKey x.1 → (seen.contains e.born = true ↔ x ∈ p)
theorem Seen.start (es : Array MapEntry) (l : List (GKey × Obj)) : Seen es l #[] [] := ⟨by simp, by simp, fun e _ x _ _ => by simp⟩
theorem Seen.step {es : Array MapEntry} {clock : Nat} {l : List (GKey × Obj)} {seen : Array Nat} {p : List (GKey × Obj)} (h : Seen es l seen p) (hr : MapRep es clock encO l) {e : MapEntry} (he : e ∈ (leftOf es seen).toList) {x : GKey × Obj} (hx : x ∈ l) (hk : e.key = encKey x.1) :
    x ∉ p ∧ Seen es l (seen.push e.born) (p ++ [x]) := by
  obtain ⟨hm, hc⟩ := mem_left he
  have hn : x ∉ p := fun hp => by
    have := (h.ex e hm x hx hk).2 hp
    rw [hc] at this; cases this
  refine ⟨hn, ?_, ?_, ?_⟩
  · refine List.nodup_append.2 ⟨h.nd, by simp, ?_⟩
    rintro a ha b hb rfl
    simp at hb; subst hb; exact hn ha
  · intro y hy
    rcases List.mem_append.1 hy with hy | hy
    · exact h.sub y hy
    · simp at hy; subst hy; exact hx
  · intro e' he' x' hx' hk'
    rw [contains_push, Bool.or_eq_true]
    constructor
    · rintro (h1 | h1)
      · exact List.mem_append_left _ ((h.ex e' he' x' hx' hk').1 h1)
      · have h2 : e.born = e'.born := by have := h1; simp at this; exact this.symm
        have := born_inj hr.nd hm he' h2
        subst this
        have := nodup_inj hr.keys hx hx' (encKey_inj (hk.symm.trans hk'))
        subst this
        simp
    · intro h1
      rcases List.mem_append.1 h1 with h1 | h1
      · exact .inl ((h.ex e' he' x' hx' hk').2 h1)
      · simp at h1; subst h1
        have := nodup_inj (rep_keys hr) he' hm (hk'.trans hk.symm)
        subst this
        exact .inr (by simp)
theorem rep_nodup {es : Array MapEntry} {clock : Nat} {l : List (GKey × Obj)} (hr : MapRep es clock encO l) : l.Nodup := by
  have h2 := hr.keys
  clear hr
  induction l with
  | nil => simp
  | cons a l ih =>
    simp only [List.map_cons, List.nodup_cons] at h2 ⊢
    exact ⟨fun hm => h2.1 (List.mem_map_of_mem hm), ih h2.2⟩
theorem Seen.done {es : Array MapEntry} {clock : Nat} {l : List (GKey × Obj)} {seen : Array Nat} {p : List (GKey × Obj)} (h : Seen es l seen p) (hr : MapRep es clock encO l) (h0 : (leftOf es seen).size = 0) : p.Perm l := by
  refine (List.perm_ext_iff_of_nodup h.nd (rep_nodup hr)).2 fun x => ⟨h.sub x, fun hx => ?_⟩
  obtain ⟨e, he, hk⟩ := rep_of hr hx
  exact (h.ex e he x hx hk).1 (all_seen es seen h0 e he)
theorem Seen.keys {es : Array MapEntry} {clock : Nat} {l : List (GKey × Obj)} {seen : Array Nat} {p : List (GKey × Obj)} (h : Seen es l seen p) (hr : MapRep es clock encO l) {x : GKey × Obj} (hx : x ∈ l) (hn : x ∉ p) : assocPut p x.1 x.2 = p ++ [x] := by
  unfold assocPut
  cases hf : p.findIdx? (fun q => decide (x.1 = q.1)) with
  | none => rfl
  | some j =>
    obtain ⟨hj, hk, _⟩ := List.findIdx?_eq_some_iff_getElem.1 hf
    have hm := List.getElem_mem hj
    have := nodup_inj hr.keys hx (h.sub _ hm) (of_decide_eq_true hk)
    exact absurd (this ▸ hm) hn

/-- a step of the loop -/
theorem next_obj {w : World} {r m : Nat} {es : Array MapEntry} {clock : Nat} {seen : Array Nat} {l : List (GKey × Obj)} (hi : w.heap[r]? = some (.mapIter (some m) clock seen clock)) (hm : w.heap[m]? = some (.map es clock)) (hr : MapRep es clock encO l) :
    ((leftOf es seen).size = 0 ∧ ∀ ty, (Instr.next (.pointer (some ⟨r, 0, none⟩)) false ty).run Try.prog w = .ok (.tuple #[.bool false]) w) ∨
    ∃ e ∈ (leftOf es seen).toList, ∃ x w1, x ∈ l ∧ e.key = encKey x.1 ∧ w1.heap[r]? = some (.mapIter (some m) clock (seen.push e.born) clock) ∧ Keeps (fun i => i = r) w w1 ∧ w1.heap.size = w.heap.size ∧
      (∀ ty, (Instr.next (.pointer (some ⟨r, 0, none⟩)) false ty).run Try.prog w = .ok (.tuple #[.bool true, .agg #[.int .u8 x.1.kind, .string x.1.name], .agg (cellsO x.2)]) w1) ∧
      (Instr.entry (.pointer (some ⟨r, 0, none⟩))).run Try.prog w1 = .ok (.tuple #[.agg #[.int .u8 x.1.kind, .string x.1.name], .agg (cellsO x.2)]) w1 := by
  rcases run_next_at (P := Try.prog) w 0 r m clock clock seen es clock hi hm hr.born (Nat.le_refl _) with ⟨h0, hrun⟩ | ⟨e, he, w1, hw1, hrun⟩
  · exact .inl ⟨h0, fun _ => hrun⟩
  · refine .inr ⟨e, he, ?_⟩
    have hmem := (mem_left he).1
    obtain ⟨x, hx, hk, hv⟩ := rep_entry hr hmem
    have hne : m ≠ r := fun e => by rw [e, hi] at hm; cases hm
    have hw1h : w1.heap = w.heap := by rcases hw1 with rfl | rfl <;> rfl
    have hk1 : Keeps (fun i => i = r) w w1 := by rcases hw1 with rfl | rfl; exact Keeps.refl _ _; exact (Keeps.refl _ _).drew
    have hlt := heap_lt hi
    have hA : (Go.ChangeMaps.setBlock w1 r (.mapIter (some m) clock (seen.push e.born) clock)).heap[r]? = some (.mapIter (some m) clock (seen.push e.born) clock) := setBlock_same (by rw [hw1h]; exact hlt)
    have hM : (Go.ChangeMaps.setBlock w1 r (.mapIter (some m) clock (seen.push e.born) clock)).heap[m]? = some (.map es clock) := (setBlock_ne hne).trans (by rw [hw1h]; exact hm)
    refine ⟨x, _, hx, hk, hA, hk1.trans ⟨rfl, rfl, rfl, by simp [Go.ChangeMaps.setBlock], fun k _ hkr => setBlock_ne hkr⟩, by simp [Go.ChangeMaps.setBlock, hw1h], fun _ => ?_, ?_⟩
    · rw [hk, hv] at hrun; exact hrun
    · have := run_entry_at (P := Try.prog) _ r m clock seen es clock e hA hM hmem hr.nd
      rw [hk, hv] at this; exact this
theorem iterSeen_of {w : World} {r : Nat} {a : Option Nat} {b : Nat} {s : Array Nat} {c : Nat} (h : w.heap[r]? = some (.mapIter a b s c)) : w.iterSeen r = s := by simp [World.iterSeen, h]



theorem below_then {w a b : World} (h : Below w.heap.size w a) (k : Below a.heap.size a b) : Below w.heap.size w b := h.trans (k.mono h.size)
theorem run_makeMapN (n : Nat) (w : World) : (Instr.makeMap 73 (some (.int .i64 (n : Int)))).run Try.prog w = .ok (.map (some w.heap.size)) (w.alloc (.map #[] 0)) := by
  simp [Instr.makeMap, asIntOf, asInt, Result.andThen]

/-- the fork's box is made; its map holds p as yet -/
structure FK (w wx : World) (b mb q : Nat) (cvn lvn : Value) (p : List (GKey × Obj)) (cs : List Ev) (n most : Nat) : Prop where
  sm : SM wx w.heap.size ⟨b, mb, q⟩ cvn p cs
  lg : LogAt wx w.heap.size q lvn n (encs (cs.map chE) 0) n most
  bl : Below w.heap.size w wx
theorem FK.kept {w wx wy : World} {b mb q : Nat} {cvn lvn : Value} {p : List (GKey × Obj)} {cs : List Ev} {n most r : Nat} {m : Option Nat} {x y : Nat} {s : Array Nat} (h : FK w wx b mb q cvn lvn p cs n most) (hr : wx.heap[r]? = some (.mapIter m x s y)) (hwr : w.heap.size ≤ r) (hk : Keeps (fun i => i = r) wx wy) : FK w wy b mb q cvn lvn p cs n most := by
  refine ⟨h.sm.kept fun i hi hm => hk.block i hi ?_, h.lg.kept fun i hi => hk.block i (by rcases hi with rfl | hi; exact h.lg.lt.1; exact (h.lg.lt.2 i hi).2) ?_, ((Keeps.of_below (F := fun i => w.heap.size ≤ i) h.bl).trans (hk.mono fun i _ hx => by omega)).below (fun i hi hx => by omega)⟩
  · rintro rfl
    obtain ⟨es, c, hmp, _⟩ := h.sm.mp
    rcases hm with hm | hm | hm
    · rw [hm, h.sm.hd] at hr; cases hr
    · rw [hm, hmp] at hr; cases hr
    · obtain ⟨_, _, hc⟩ := ownsRow_cells h.sm.ch hm
      rw [hr] at hc; cases hc
  · rintro rfl
    rcases hi with hm | hm
    · have := h.lg.cells
      rw [← hm, hr] at this; cases this
    · obtain ⟨_, _, hc⟩ := ownsRow_cells h.lg.row.2 hm
      rw [hr] at hc; cases hc
theorem FK.below {w wx wy : World} {b mb q : Nat} {cvn lvn : Value} {p : List (GKey × Obj)} {cs : List Ev} {n most : Nat} (h : FK w wx b mb q cvn lvn p cs n most) (hb : Below wx.heap.size wx wy) : FK w wy b mb q cvn lvn p cs n most :=
  ⟨h.sm.below hb, h.lg.below hb, below_then h.bl hb⟩
theorem FK.setM {w wx : World} {b mb q : Nat} {cvn lvn : Value} {p p' : List (GKey × Obj)} {cs : List Ev} {n most : Nat} (h : FK w wx b mb q cvn lvn p cs n most) {es : Array MapEntry} {c : Nat} (hr : MapRep es c encO p') : FK w (Wset wx mb (.map es c)) b mb q cvn lvn p' cs n most := by
  refine ⟨h.sm.setM hr, h.lg.kept fun i hi => Wset_ne ?_, (Keeps.wset (F := fun i => w.heap.size ≤ i) (Keeps.of_below h.bl) (fun _ => h.sm.lo.2) _).below (fun i hi hx => by omega)⟩
  rintro rfl
  exact h.sm.apart h.lg (i := i) (.inr (.inl rfl)) hi

theorem ownE_later {w w' : World} {B B' : Nat} {v : Value} {cs : List Ev} (h : OwnE w B v cs) (hb : Below w.heap.size w w') (hB : B' ≤ B) : OwnE w' B' v cs := ownsRow_mono (ownsRow_of_heap h fun k hk => hb.block k (h.lt k hk).2) hB
theorem fk_make {w X : World} {mb q : Nat} {v u : Value} {cs : List Ev} {n most : Nat} (hm : X.heap[mb]? = some (.map #[] 0)) (ho : OwnE X w.heap.size v cs) (hl : LogAt X w.heap.size q u n (encs (cs.map chE) 0) n most) (hb : Below w.heap.size w X) (hmb : w.heap.size ≤ mb) :
    FK w (X.alloc (.cells #[.map (some mb), v, .pointer (some ⟨q, 0, none⟩)] 75)) X.heap.size mb q v u [] cs n most := by
  have h1 : Below X.heap.size X (X.alloc (.cells #[.map (some mb), v, .pointer (some ⟨q, 0, none⟩)] 75)) := (Below.refl _ _).alloc (Nat.le_refl _) _
  exact ⟨⟨heap_alloc_eq, ⟨#[], 0, (heap_alloc_lt (heap_lt hm)).trans hm, MapRep.nil _⟩, ownE_later ho h1 (Nat.le_refl _), hb.size, hmb⟩, hl.below h1, below_then hb h1⟩
def SForkPost (w : World) (ms : List (GKey × Obj)) (cs : List Ev) (n most : Nat) (e : Ending) (w' : World) : Prop :=
  ∃ L' cv' lv' ms', e = .returned (.pointer (some ⟨L'.p, 0, none⟩)) ∧ SA w' w.heap.size L' cv' lv' ms' cs n most ∧ ms'.Perm ms ∧ Below w.heap.size w w'

set_option maxRecDepth 100000 in
set_option maxHeartbeats 4000000 in
theorem sfork_any (w : World) (B : Nat) (L : SLoc) (cv lv : Value) (ms : List (GKey × Obj)) (cs : List Ev) (n most : Nat) (h : SA w B L cv lv ms cs n most) (hl : cs.length ≤ 100000) :
    Calls Try.prog 8 #[.pointer (some ⟨L.p, 0, none⟩)] w (SForkPost w ms cs n most) := by
  have hZ := objZ_cells
  simp only [noText] at hZ
  have HZ := Lib.hid hZ
  clear hZ
  have H := Lib.hid h
  obtain ⟨es, c, hm, hr⟩ := h.sm.mp
  obtain ⟨p0, q0⟩ := cells_of_block h.sm.hd 0 (.map (some L.m)) rfl
  obtain ⟨p1, q1⟩ := cells_of_block h.sm.hd 1 cv rfl
  obtain ⟨p2, q2⟩ := cells_of_block h.sm.hd 2 (.pointer (some ⟨L.g, 0, none⟩)) rfl
  have hN : ∀ x : World, x.heap[L.m]? = some (.map es c) → (Builtin.len_ #[73] 3 #[.map (some L.m)]).run Try.prog x = .ok (.int .i64 ms.length) x := fun x hx => run_mapLen undMap hr x _ _ rfl hx
  have hmk := run_makeMapN ms.length
  have hkeep : ∀ wz : World, Below w.heap.size w wz → (wz.cell? ⟨L.p, 0, none⟩ = some (.map (some L.m))) ∧ (wz.cell? ⟨L.p, 1, none⟩ = some cv) ∧ (wz.cell? ⟨L.p, 2, none⟩ = some (.pointer (some ⟨L.g, 0, none⟩))) ∧ (wz.heap[L.m]? = some (.map es c)) := fun wz hb =>
    ⟨(hb.cell (p := ⟨L.p, 0, none⟩) h.sm.lt.1).trans p0, (hb.cell (p := ⟨L.p, 1, none⟩) h.sm.lt.1).trans p1, (hb.cell (p := ⟨L.p, 2, none⟩) h.sm.lt.1).trans p2, (hb.block _ (heap_lt hm)).trans hm⟩
  have HKP := Lib.hid hkeep
  obtain ⟨ca, cc, hcv, hev, hle, hmx⟩ := OwnE.evs h.sm.ch
  have hna : ca = none → cs = [] ∧ cc = 0 := by
    intro ha
    subst ha
    obtain ⟨_, ⟨h1, h0⟩ | ⟨g, cap, cur, h1, _⟩⟩ := h.sm.ch
    · rw [hcv] at h1
      simp at h1
      exact ⟨List.eq_nil_of_length_eq_zero h0, h1.2⟩
    · rw [hcv] at h1; simp at h1
  subst hcv
  have HEV := Lib.hid hev
  have HNA := Lib.hid hna
  have HLE := Lib.hid (And.intro hle hmx)
  have HR := Lib.hid hr
  have HM := Lib.hid hm
  clear h hm hr p0 q0 p1 q1 p2 q2 hkeep hev hna hle hmx
  go_enter Try.func8, Try.ntmps8
  go_upto_region 3 with fail
  go_cut [3] (fun s3 wx => ∃ b mb q cvn lvn, s3 = .pointer (some ⟨b, 0, none⟩) ∧ Hid (FK w wx b mb q cvn lvn [] cs n most))
  case first =>
    refine wp_region_tree (fun w' => (w'.cell? ⟨L.p, 0, none⟩ = some (.map (some L.m))) ∧ (w'.cell? ⟨L.p, 1, none⟩ = some (.slice ca cs.length cc)) ∧ (w'.cell? ⟨L.p, 2, none⟩ = some (.pointer (some ⟨L.g, 0, none⟩))) ∧ (w'.heap[L.m]? = some (.map es c))) (.t 0 (.t 1 (.t 2 (.t 3 (.t 4 (.t 6 (.t 7 (.t 8 (.t 9 (.t 11 (.t 12 (.t 13 (.t 14 (.f 5 (.a 10 (.a 15 (.t 16 (.a 17 (.t 18 .nil))))) 10 (.f 5 (.a 15 (.t 16 (.a 17 (.t 18 .nil)))) 15 (.a 5 (.t 16 (.a 17 (.t 18 .nil))))))))))))))))))) (by kernel_rfl) (by kernel_rfl) (by kernel_rfl) ?_ ?_
    · exact (HKP.out _ (by first | exact HB2.out.alloc HB2.out.size _ | exact (HB2.out.alloc HB2.out.size _).alloc (by have := HB2.out.size; simp; omega) _ | exact HB2.out | exact HB1.out.alloc HB1.out.size _ | exact HB1.out | exact (Below.refl _ _).drew | exact (Below.refl _ _).drew.alloc (Nat.le_refl _) _))
    iterate 13
     apply wpT_takeK rfl _ (by first | rfl | (simp [Region.wanted, yielded]; done))
     · intro w' hS
       obtain ⟨s0, s1, s2, s3⟩ := hS
       skip
       go_simp
       try rfl
     intro K hK
     go_simp
     refine hK _ ?_
     clear hK K
    refine wpT_fork rfl rfl ?_ ?_
    focus go_wp2
    refine QS_normal (HKP.out _ (by first | exact HB2.out.alloc HB2.out.size _ | exact (HB2.out.alloc HB2.out.size _).alloc (by have := HB2.out.size; simp; omega) _ | exact HB2.out | exact HB1.out.alloc HB1.out.size _ | exact HB1.out | exact (Below.refl _ _).drew | exact (Below.refl _ _).drew.alloc (Nat.le_refl _) _)) (fun _ => ?_)
    refine wpT_alone rfl ?_
    focus (go_wp2_with fail; refine (cloneE_any cs ca cc _ hl HLE.out HNA.out (HEV.out.belowE (by first | exact (Below.refl _ _).drew | exact (Below.refl _ _).drew.alloc (Nat.le_refl _) _))).mono ?_; rintro x w1 ⟨v, rfl, hown, hb⟩; obtain ⟨va, vk, rfl, _⟩ := OwnE.evs hown; have HB1 := Lib.hid (below_then (w := w) (by first | exact (Below.refl _ _).drew | exact (Below.refl _ _).drew.alloc (Nat.le_refl _) _) hb); have H1 := Lib.hid (And.intro hown hb); clear hown hb; go_wp2)
    refine QS_normal (HKP.out _ (by first | exact HB2.out.alloc HB2.out.size _ | exact (HB2.out.alloc HB2.out.size _).alloc (by have := HB2.out.size; simp; omega) _ | exact HB2.out | exact HB1.out.alloc HB1.out.size _ | exact HB1.out | exact (Below.refl _ _).drew | exact (Below.refl _ _).drew.alloc (Nat.le_refl _) _)) (fun _ => ?_)
    refine wpT_alone rfl ?_
    focus (go_wp2_with fail; refine (fork_any _ B L.g lv n _ n most (H.out.lg.below (by first | exact HB1.out | exact HB1.out.alloc HB1.out.size _))).mono ?_; rintro x w2 ⟨q, u1, rfl, hlg, hb⟩; have HB2 := Lib.hid (below_then (w := w) (by first | exact HB1.out | exact HB1.out.alloc HB1.out.size _) hb); have H2 := Lib.hid (And.intro hlg hb); clear hlg hb; go_wp2)
    refine QS_normal (HKP.out _ (by first | exact HB2.out.alloc HB2.out.size _ | exact (HB2.out.alloc HB2.out.size _).alloc (by have := HB2.out.size; simp; omega) _ | exact HB2.out | exact HB1.out.alloc HB1.out.size _ | exact HB1.out | exact (Below.refl _ _).drew | exact (Below.refl _ _).drew.alloc (Nat.le_refl _) _)) (fun _ => ?_)
    apply wpT_takeK rfl _ (by first | rfl | (simp [Region.wanted, yielded]; done))
    · intro w' hS
      obtain ⟨s0, s1, s2, s3⟩ := hS
      skip
      go_simp
      try rfl
    intro K hK
    go_simp
    refine hK _ ?_
    clear hK K
    refine wpT_alone rfl ?_
    focus go_wp2
    refine QS_normal (HKP.out _ (by first | exact HB2.out.alloc HB2.out.size _ | exact (HB2.out.alloc HB2.out.size _).alloc (by have := HB2.out.size; simp; omega) _ | exact HB2.out | exact HB1.out.alloc HB1.out.size _ | exact HB1.out | exact (Below.refl _ _).drew | exact (Below.refl _ _).drew.alloc (Nat.le_refl _) _)) (fun _ => ?_)
    apply wpT_takeK rfl _ (by first | rfl | (simp [Region.wanted, yielded]; done))
    · intro w' hS
      obtain ⟨s0, s1, s2, s3⟩ := hS
      skip
      go_simp
      try rfl
    intro K hK
    go_simp
    refine hK _ ?_
    clear hK K
    refine wpT_end ?_
    rotate_left
    focus (go_wp2_with fail; refine (cloneE_any cs ca cc _ hl HLE.out HNA.out (HEV.out.belowE (by first | exact (Below.refl _ _).drew | exact (Below.refl _ _).drew.alloc (Nat.le_refl _) _))).mono ?_; rintro x w1 ⟨v, rfl, hown, hb⟩; obtain ⟨va, vk, rfl, _⟩ := OwnE.evs hown; have HB1 := Lib.hid (below_then (w := w) (by first | exact (Below.refl _ _).drew | exact (Below.refl _ _).drew.alloc (Nat.le_refl _) _) hb); have H1 := Lib.hid (And.intro hown hb); clear hown hb; go_wp2)
    refine QS_normal (HKP.out _ (by first | exact HB2.out.alloc HB2.out.size _ | exact (HB2.out.alloc HB2.out.size _).alloc (by have := HB2.out.size; simp; omega) _ | exact HB2.out | exact HB1.out.alloc HB1.out.size _ | exact HB1.out | exact (Below.refl _ _).drew | exact (Below.refl _ _).drew.alloc (Nat.le_refl _) _)) (fun _ => ?_)
    refine wpT_fork rfl rfl ?_ ?_
    focus go_wp2
    refine QS_normal (HKP.out _ (by first | exact HB2.out.alloc HB2.out.size _ | exact (HB2.out.alloc HB2.out.size _).alloc (by have := HB2.out.size; simp; omega) _ | exact HB2.out | exact HB1.out.alloc HB1.out.size _ | exact HB1.out | exact (Below.refl _ _).drew | exact (Below.refl _ _).drew.alloc (Nat.le_refl _) _)) (fun _ => ?_)
    refine wpT_alone rfl ?_
    focus (go_wp2_with fail; refine (fork_any _ B L.g lv n _ n most (H.out.lg.below (by first | exact HB1.out | exact HB1.out.alloc HB1.out.size _))).mono ?_; rintro x w2 ⟨q, u1, rfl, hlg, hb⟩; have HB2 := Lib.hid (below_then (w := w) (by first | exact HB1.out | exact HB1.out.alloc HB1.out.size _) hb); have H2 := Lib.hid (And.intro hlg hb); clear hlg hb; go_wp2)
    refine QS_normal (HKP.out _ (by first | exact HB2.out.alloc HB2.out.size _ | exact (HB2.out.alloc HB2.out.size _).alloc (by have := HB2.out.size; simp; omega) _ | exact HB2.out | exact HB1.out.alloc HB1.out.size _ | exact HB1.out | exact (Below.refl _ _).drew | exact (Below.refl _ _).drew.alloc (Nat.le_refl _) _)) (fun _ => ?_)
    apply wpT_takeK rfl _ (by first | rfl | (simp [Region.wanted, yielded]; done))
    · intro w' hS
      obtain ⟨s0, s1, s2, s3⟩ := hS
      skip
      go_simp
      try rfl
    intro K hK
    go_simp
    refine hK _ ?_
    clear hK K
    refine wpT_alone rfl ?_
    focus go_wp2
    refine QS_normal (HKP.out _ (by first | exact HB2.out.alloc HB2.out.size _ | exact (HB2.out.alloc HB2.out.size _).alloc (by have := HB2.out.size; simp; omega) _ | exact HB2.out | exact HB1.out.alloc HB1.out.size _ | exact HB1.out | exact (Below.refl _ _).drew | exact (Below.refl _ _).drew.alloc (Nat.le_refl _) _)) (fun _ => ?_)
    apply wpT_takeK rfl _ (by first | rfl | (simp [Region.wanted, yielded]; done))
    · intro w' hS
      obtain ⟨s0, s1, s2, s3⟩ := hS
      skip
      go_simp
      try rfl
    intro K hK
    go_simp
    refine hK _ ?_
    clear hK K
    refine wpT_end ?_
    rotate_left
    focus (go_wp2_with fail; refine (fork_any _ B L.g lv n _ n most (H.out.lg.below (by first | exact HB1.out | exact HB1.out.alloc HB1.out.size _))).mono ?_; rintro x w2 ⟨q, u1, rfl, hlg, hb⟩; have HB2 := Lib.hid (below_then (w := w) (by first | exact HB1.out | exact HB1.out.alloc HB1.out.size _) hb); have H2 := Lib.hid (And.intro hlg hb); clear hlg hb; go_wp2)
    refine QS_normal (HKP.out _ (by first | exact HB2.out.alloc HB2.out.size _ | exact (HB2.out.alloc HB2.out.size _).alloc (by have := HB2.out.size; simp; omega) _ | exact HB2.out | exact HB1.out.alloc HB1.out.size _ | exact HB1.out | exact (Below.refl _ _).drew | exact (Below.refl _ _).drew.alloc (Nat.le_refl _) _)) (fun _ => ?_)
    iterate 2
     refine wpT_alone rfl ?_
     focus go_wp2
     refine QS_normal (HKP.out _ (by first | exact HB2.out.alloc HB2.out.size _ | exact (HB2.out.alloc HB2.out.size _).alloc (by have := HB2.out.size; simp; omega) _ | exact HB2.out | exact HB1.out.alloc HB1.out.size _ | exact HB1.out | exact (Below.refl _ _).drew | exact (Below.refl _ _).drew.alloc (Nat.le_refl _) _)) (fun _ => ?_)
     apply wpT_takeK rfl _ (by first | rfl | (simp [Region.wanted, yielded]; done))
     · intro w' hS
       obtain ⟨s0, s1, s2, s3⟩ := hS
       skip
       go_simp
       try rfl
     intro K hK
     go_simp
     refine hK _ ?_
     clear hK K
    refine wpT_end ?_
    rotate_left
    all_goals
      go_wp2_with fail
      go_meet
    · have hA : (w.drew.alloc (.map #[] 0)).heap[w.heap.size]? = some (.map #[] 0) := heap_alloc_eq (w := w.drew)
      exact ⟨_, _, _, _, _, rfl, Lib.hid (fk_make ((H2.out.2.block _ (by have := H1.out.2.size; simp at this; omega)).trans ((H1.out.2.block _ (by simp)).trans hA)) (ownE_later H1.out.1 H2.out.2 (by simp)) (H2.out.1.lower HB1.out.size) HB2.out (Nat.le_refl _))⟩
    · have hA : (w1.alloc (.map #[] 0)).heap[w1.heap.size]? = some (.map #[] 0) := heap_alloc_eq
      have h12 : Below w1.heap.size w1 w2 := below_then ((Below.refl _ _).alloc (Nat.le_refl _) _) H2.out.2
      exact ⟨_, _, _, _, _, rfl, Lib.hid (fk_make ((H2.out.2.block _ (by simp)).trans hA) (ownE_later H1.out.1 h12 (Nat.le_refl _)) (H2.out.1.lower (by have := HB1.out.size; simp; omega)) HB2.out HB1.out.size)⟩
    · have hA : (w2.alloc (.map #[] 0)).heap[w2.heap.size]? = some (.map #[] 0) := heap_alloc_eq
      have h23 : Below w2.heap.size w2 (w2.alloc (.map #[] 0)) := (Below.refl _ _).alloc (Nat.le_refl _) _
      have e : w2.heap.size + 1 = (w2.alloc (.map #[] 0)).heap.size := by simp
      exact ⟨_, _, _, _, _, by rw [e], Lib.hid (fk_make hA (ownE_later H1.out.1 (H2.out.2.trans (h23.mono H2.out.2.size)) (Nat.le_refl _)) ((H2.out.1.lower HB1.out.size).below h23) (below_then HB2.out h23) HB2.out.size)⟩
  case rest =>
    obtain ⟨b, mb, q, cvn, lvn, rfl, HF⟩ := hcut
    clear hmk hN HNA HLE HEV HKP
    have hmc := (HF.out.bl.block _ (heap_lt HM.out)).trans HM.out
    have hp0 : wc.cell? ⟨L.p, 0, none⟩ = some (.map (some L.m)) := (cells_of_block (H.out.sm.below HF.out.bl).hd 0 (.map (some L.m)) rfl).1
    have hrg := run_range_map (P := Try.prog) wc 73 45 31 L.m es c undMap hmc
    have hrw : w.heap.size ≤ wc.heap.size := HF.out.bl.size
    have hml : L.m < wc.heap.size := heap_lt hmc
    have HI0 := Lib.hid (heap_alloc_eq (w := wc) (o := .mapIter (some L.m) c #[] c))
    have HM0 := Lib.hid ((heap_alloc_lt (w := wc) (o := .mapIter (some L.m) c #[] c) hml).trans hmc)
    have HF0 := Lib.hid (HF.out.below (wy := wc.alloc (.mapIter (some L.m) c #[] c)) ((Below.refl _ _).alloc (Nat.le_refl _) _))
    go_wp2
    generalize hR : wc.heap.size = R at *
    go_loopw [] (fun wr => ∃ (p : List (GKey × Obj)) (seen : Array Nat), Hid (FK w wr b mb q cvn lvn p cs n most) ∧ Hid (Seen es ms seen p) ∧ Hid (wr.heap[R]? = some (.mapIter (some L.m) c seen c)) ∧ Hid (wr.heap[L.m]? = some (.map es c))) (fun wr => (leftOf es (wr.iterSeen R)).size)
    case atStart => exact ⟨[], #[], HF0, Lib.hid (Seen.start es ms), HI0, HM0⟩
    case round =>
      obtain ⟨p, seen, HF, HS, HI, HM⟩ := hrel
      rcases next_obj HI.out HM.out HR.out with ⟨h0, hnx⟩ | ⟨e, he, x, w1, hx, hk, hi1, hk1, hs1, hnx, hen⟩
      · have hperm := HS.out.done HR.out h0
        have HP := Lib.hid hperm
        clear hperm
        go_wp2
        go_ret
        refine ⟨⟨b, mb, q⟩, cvn, lvn, p, rfl, ⟨HF.out.sm, HF.out.lg, H.out.ok, fun x hx => H.out.om x (HP.out.mem_iff.1 hx), H.out.vr⟩, HP.out, HF.out.bl⟩
      · have HF1 := Lib.hid (HF.out.kept HI.out hrw hk1)
        have HM1 := Lib.hid ((hk1.block _ (heap_lt HM.out) (fun e => by rw [e] at hml; exact absurd hml (Nat.lt_irrefl _))).trans HM.out)
        have HI1 := Lib.hid hi1
        obtain ⟨hxn, hseen⟩ := HS.out.step HR.out he hx hk
        have HS1 := Lib.hid hseen
        have HME := Lib.hid (left_shrinks es seen e he)
        have HXN := Lib.hid (HS.out.keys HR.out hx hxn)
        have HSZ := Lib.hid hs1
        clear hseen hxn hk hx he hi1 hk1 hs1
        obtain ⟨W2, hW2⟩ : ∃ W, W = Wset ((w1.alloc (.cells #[.int .u8 x.1.kind, .string x.1.name] 45)).alloc (.cells (cellsO objZ) 31)) (w1.heap.size + 1) (.cells (cellsO x.2) 31 (0, 0)) := ⟨_, rfl⟩
        have hq : ((w1.alloc (.cells #[.int .u8 x.1.kind, .string x.1.name] 45)).alloc (.cells (cellsO objZ) 31)).heap[w1.heap.size + 1]? = some (.cells (cellsO objZ) 31 (0, 0)) := by
          have := World.alloc_heap_new (w1.alloc (.cells #[.int .u8 x.1.kind, .string x.1.name] 45)) (.cells (cellsO objZ) 31)
          rwa [World.size_alloc] at this
        have hkb : W2.heap[w1.heap.size]? = some (.cells #[.int .u8 x.1.kind, .string x.1.name] 45 (0, 0)) := by rw [hW2]; exact (Wset_ne (by omega)).trans ((heap_alloc_lt (by simp)).trans heap_alloc_eq)
        have hxb : W2.heap[w1.heap.size + 1]? = some (.cells (cellsO x.2) 31 (0, 0)) := by rw [hW2]; exact Wset_same (by simp)
        have hb2 : Below w1.heap.size w1 W2 := hW2 ▸ belowWs (((Below.refl _ _).alloc (Nat.le_refl _) _).alloc (by simp) _) (by omega)
        conv at hq => lhs; rw [HZ.out]
        have HQ := Lib.hid hq
        have HW := Lib.hid hW2
        have HF2 := Lib.hid (HF1.out.below hb2)
        have HM2 := Lib.hid ((hb2.block _ (heap_lt HM1.out)).trans HM1.out)
        have HI2 := Lib.hid ((hb2.block _ (heap_lt HI1.out)).trans HI1.out)
        have HXB := Lib.hid hxb
        obtain ⟨k0, j0⟩ := cells_of_block hkb 0 (.int .u8 x.1.kind) rfl
        obtain ⟨k1, j1⟩ := cells_of_block hkb 1 (.string x.1.name) rfl
        obtain ⟨b0, d0⟩ := cells_of_block HF2.out.sm.hd 0 (.map (some mb)) rfl
        obtain ⟨es2, c2, hm2, hr2⟩ := HF2.out.sm.mp
        obtain ⟨es3, c3, hr3, hup⟩ := run_mapUpdate keyOK undMap hr2 x.1 x.2
        have hUd : (Instr.mapUpdate 73 (.map (some mb)) (.agg #[.int .u8 x.1.kind, .string x.1.name]) (.agg (cellsO x.2))).run Try.prog W2.drew = .ok () (Wset W2.drew mb (.map es3 c3)) := hup mb W2.drew hm2
        rw [HXN.out] at hr3
        have HR3 := Lib.hid hr3
        clear hq hW2 hkb hxb hb2 hup hm2 hr2 hr3
        go_upto_region 7 with (first
          | (refine wpList_storeObj rfl _ _ rfl (w1.heap.size + 1) rfl x.2 rfl _ HQ.out rfl ?_; rw [← HZ.out, ← HW.out])
          | fail)
        refine wp_region_T 6 (by kernel_rfl) (by kernel_rfl) ?_
        simp only [List.take_succ_cons, List.take_zero, List.drop_succ_cons, List.drop_zero]
        iterate 5
         refine wpStill_step (fun K hK => ?_)
         go_simp
         refine hK _ ?_
         clear hK K
        refine wpStill_val (by first | rfl | (simp [Region.wanted, yielded]; done)) (exec_loadObj x.2 rfl rfl (cells_all HXB.out)) ?_
        refine wpStill_nil ?_
        refine wpList_upd rfl _ _ _ _ rfl (some mb) _ _ rfl rfl rfl hUd ?_
        go_wp2_with fail
        have hmw := HF2.out.sm.lo.2
        have hlm := H.out.sm.lt.2
        have hRm : R ≠ mb := by
          rintro rfl
          obtain ⟨_, _, h9, _⟩ := HF2.out.sm.mp
          have := HI2.out
          rw [h9] at this; cases this
        have hi3 : (Wset W2.drew mb (.map es3 c3)).heap[R]? = some (.mapIter (some L.m) c (seen.push e.born) c) := (Wset_ne hRm).trans HI2.out
        refine ⟨⟨p ++ [x], (HF2.out.below (Below.refl _ _).drew).setM HR3.out |> Lib.hid, _, HS1, Lib.hid hi3, Lib.hid ((Wset_ne (by show L.m ≠ mb; simp only at hmw; omega)).trans HM2.out)⟩, ?_⟩
        rw [iterSeen_of hi3, iterSeen_of HI.out]
        exact HME.out

end Go.Proofs.Ytobpohjhhelljaa
