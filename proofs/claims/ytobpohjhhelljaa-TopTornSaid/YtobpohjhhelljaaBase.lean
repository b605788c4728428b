/- Maps keyed by api.Key, as lists. -/
import Derived.Test.YtobpohjhhelljaaKeeps
import Derived.Test.YtobpohjhhelljaaRows
import Derived.WalkKit
import Derived.WalkLawsBesides
import Derived.WalkSpells
import Derived.Below
import Derived.Maps.OwnOps
namespace Go.Proofs.Ytobpohjhhelljaa
open Go.RowKit
set_option linter.unusedVariables false
set_option linter.unusedSimpArgs false

open Go.RowKit Go.Maps

structure GKey where
  kind : Int
  name : ByteArray
  deriving DecidableEq

abbrev encKey (k : GKey) : Value := .agg #[.int .u8 k.kind, .string k.name]

theorem encKey_inj {a b : GKey} (h : encKey a = encKey b) : a = b := by
  cases a; cases b; simp [encKey] at h; simp [h]

/-- what a key type must do -/
structure KeyOK (P : Program) (K : TypeId) : Prop where
  und : ∃ fs, P.underlying K = some (.struct fs)
  chk : ∀ k b w, (Instr.checkKey b 10000 K (encKey k)).run P w = .ok () w
  eq : ∀ k k' w, (Op.equal K (encKey k) (encKey k')).run P w = .ok (decide (k = k')) w

def assoc {α : Type} (l : List (GKey × α)) (k : GKey) : Option α := (l.find? fun p => decide (k = p.1)).map (·.2)

theorem run_findAsking {P : Program} {K : TypeId} (hK : KeyOK P K) (k : GKey) (w : World) {α : Type} (encV : α → Value) (l : List (GKey × α)) :
    ∀ (es : List MapEntry) (i : Nat), es.map (fun e => (e.key, e.val)) = l.map (fun p => (encKey p.1, encV p.2)) →
    (Instr.findAsking K (encKey k) es i).run P w = .ok ((l.findIdx? fun p => decide (k = p.1)).bind fun j => (l[j]?).map fun p => (i + j, encV p.2)) w := by
  induction l with
  | nil => intro es i h; simp at h; subst h; simp [Instr.findAsking]
  | cons p l ih =>
    intro es i h
    cases es with
    | nil => simp at h
    | cons e es =>
      simp only [List.map_cons, List.cons.injEq, Prod.mk.injEq] at h
      obtain ⟨⟨h1, h2⟩, h3⟩ := h
      simp only [Instr.findAsking, Sem.run_bind, h1, hK.eq, Result.andThen]
      by_cases hk : k = p.1
      · simp [hk, h2, List.findIdx?_cons]
      · have := ih es (i + 1) h3
        simp only [hk, decide_false, List.findIdx?_cons, Bool.false_eq_true, if_false]
        rw [this]
        cases hf : List.findIdx? (fun p => decide (k = p.1)) l with
        | none => simp
        | some j => simp [Nat.add_assoc, Nat.add_comm 1 j]

theorem run_findKey {P : Program} {K : TypeId} (hK : KeyOK P K) (k : GKey) (w : World) {α : Type} (encV : α → Value) (l : List (GKey × α)) (es : List MapEntry)
    (h : es.map (fun e => (e.key, e.val)) = l.map (fun p => (encKey p.1, encV p.2))) :
    (Instr.findKey K (encKey k) es).run P w = .ok ((l.findIdx? fun p => decide (k = p.1)).bind fun j => (l[j]?).map fun p => (j, encV p.2)) w := by
  obtain ⟨fs, hu⟩ := hK.und
  have := run_findAsking hK k w encV l es 0 h
  simp only [Nat.zero_add] at this
  cases es with
  | nil =>
    cases l with
    | nil => simp [Instr.findKey, Instr.findNow, run_underlying hu, Result.andThen]
    | cons p l => simp at h
  | cons e es =>
    have hs : Instr.sameNow (.struct fs) (encKey k) e.key = none := by simp [Instr.sameNow]
    simp [Instr.findKey, Instr.findNow, run_underlying hu, Result.andThen, hs, this]


/-- what the entries of a map of the heap say, as a list in the order in which its keys came -/
structure MapRep {α : Type} (es : Array MapEntry) (clock : Nat) (encV : α → Value) (l : List (GKey × α)) : Prop where
  eq : es.toList.map (fun e => (e.key, e.val)) = l.map (fun p => (encKey p.1, encV p.2))
  born : ∀ e ∈ es.toList, e.born < clock
  nd : (es.toList.map (·.born)).Nodup
  keys : (l.map (·.1)).Nodup

theorem MapRep.nil {α : Type} (encV : α → Value) : MapRep #[] 0 encV ([] : List (GKey × α)) := ⟨rfl, by simp, by simp, by simp⟩

theorem assoc_eq {α : Type} (l : List (GKey × α)) (k : GKey) : assoc l k = (l.findIdx? fun p => decide (k = p.1)).bind fun j => (l[j]?).map fun p => p.2 := by
  unfold assoc
  induction l with
  | nil => simp
  | cons p l ih =>
    by_cases hk : k = p.1
    · simp [hk, List.findIdx?_cons]
    · simp only [List.find?_cons, List.findIdx?_cons, hk, decide_false, Bool.false_eq_true, if_false, ih]
      cases hf : List.findIdx? (fun p => decide (k = p.1)) l with
      | none => simp
      | some j => simp

section
variable {P : Program} {T K E : TypeId} {α : Type} {b : Nat} {encV : α → Value} {l : List (GKey × α)} {es : Array MapEntry} {clock : Nat}

theorem run_lookup_ok (hK : KeyOK P K) (hT : P.underlying T = some (.map K E)) (z : α) (hz : ∀ w, (zeroValue E).run P w = .ok (encV z) w) (h : MapRep es clock encV l) (k : GKey)
    (w : World) (hb : w.heap[b]? = some (.map es clock)) :
    (Instr.lookup T (.map (some b)) (encKey k) true).run P w = .ok (.tuple #[encV ((assoc l k).getD z), .bool (assoc l k).isSome]) w := by
  have hf := run_findKey hK k w encV l es.toList h.eq
  simp only [Instr.lookup, Sem.run_bind, run_underlying hT, MapKept.run_getObj_map hb, hK.chk, Result.andThen, hf, Sem.run_pure]
  rw [assoc_eq]
  cases h1 : (l.findIdx? fun p => decide (k = p.1)) with
  | none => simp [hz, Result.andThen]
  | some j =>
    have hj : j < l.length := (List.findIdx?_eq_some_iff_findIdx_eq.1 h1).1
    simp [List.getElem?_eq_getElem hj]

theorem run_lookup (hK : KeyOK P K) (hT : P.underlying T = some (.map K E)) (z : α) (hz : ∀ w, (zeroValue E).run P w = .ok (encV z) w) (h : MapRep es clock encV l) (k : GKey)
    (w : World) (hb : w.heap[b]? = some (.map es clock)) :
    (Instr.lookup T (.map (some b)) (encKey k) false).run P w = .ok (encV ((assoc l k).getD z)) w := by
  have hf := run_findKey hK k w encV l es.toList h.eq
  simp only [Instr.lookup, Sem.run_bind, run_underlying hT, MapKept.run_getObj_map hb, hK.chk, Result.andThen, hf, Sem.run_pure]
  rw [assoc_eq]
  cases h1 : (l.findIdx? fun p => decide (k = p.1)) with
  | none => simp [hz]
  | some j =>
    have hj : j < l.length := (List.findIdx?_eq_some_iff_findIdx_eq.1 h1).1
    simp [List.getElem?_eq_getElem hj]

/-- the list behind a store: in place, or behind all -/
def assocPut (l : List (GKey × α)) (k : GKey) (v : α) : List (GKey × α) :=
  match l.findIdx? (fun p => decide (k = p.1)) with
  | some j => l.set j (k, v)
  | none => l ++ [(k, v)]
def assocDel (l : List (GKey × α)) (k : GKey) : List (GKey × α) :=
  match l.findIdx? (fun p => decide (k = p.1)) with
  | some j => l.eraseIdx j
  | none => l

theorem map_eraseIdx {α β : Type} (f : α → β) (l : List α) (j : Nat) : (l.eraseIdx j).map f = (l.map f).eraseIdx j := by
  induction l generalizing j with
  | nil => simp
  | cons a l ih => cases j <;> simp [ih]

theorem run_sameKeyStays (k : GKey) (P : Program) (w : World) : (Instr.keyThatStays (encKey k) (encKey k)).run P w = .ok (encKey k) w := by
  have : Instr.sameBits 10000 (encKey k) (encKey k) = true := by
    have e : (k.name == k.name) = true := by rw [beq_toListBytes]; simp
    simp [Instr.sameBits, e]
  simp [Instr.keyThatStays, this]

theorem run_mapUpdate (hK : KeyOK P K) (hT : P.underlying T = some (.map K E)) (h : MapRep es clock encV l) (k : GKey) (v : α) :
    ∃ es' clock', MapRep es' clock' encV (assocPut l k v) ∧ ∀ (b : Nat) (w : World), w.heap[b]? = some (.map es clock) →
      (Instr.mapUpdate T (.map (some b)) (encKey k) (encV v)).run P w = .ok () (Wset w b (.map es' clock')) := by
  obtain ⟨hl, hborn, hnd, hkd⟩ := h
  have hf := fun w => run_findKey hK k w encV l es.toList hl
  have hlen : es.toList.length = l.length := by simpa using congrArg List.length hl
  cases h1 : (l.findIdx? fun p => decide (k = p.1)) with
  | none =>
    refine ⟨es.push { key := encKey k, val := encV v, born := clock }, clock + 1, ⟨?_, ?_, ?_, ?_⟩, ?_⟩
    · simp [assocPut, h1, hl]
    · intro e he
      simp at he
      rcases he with he | rfl
      · have := hborn e (by simpa using he); omega
      · simp
    · simp only [Array.toList_push, List.map_append, List.map_cons, List.map_nil]
      refine List.nodup_append.2 ⟨hnd, by simp, ?_⟩
      intro a ha c hc
      simp at hc; subst hc
      obtain ⟨e, he, rfl⟩ := List.mem_map.1 ha
      have := hborn e he; omega
    · simp only [assocPut, h1, List.map_append, List.map_cons, List.map_nil]
      refine List.nodup_append.2 ⟨hkd, by simp, ?_⟩
      intro a ha c hc
      simp at hc; subst hc
      obtain ⟨e, he, rfl⟩ := List.mem_map.1 ha
      have := List.findIdx?_eq_none_iff.1 h1 e he
      intro hh; simp [hh] at this
    · intro b w hb
      simp only [Instr.mapUpdate, Sem.run_bind, run_underlying hT, MapKept.run_getObj_map hb, hK.chk, Result.andThen, hf, h1, Option.bind_none, MapKept.run_setObj_map _ hb]
      rfl
  | some j =>
    have hj : j < l.length := (List.findIdx?_eq_some_iff_findIdx_eq.1 h1).1
    have hjs : j < es.size := by simpa using (hlen ▸ hj : j < es.toList.length)
    have hjk : l[j].1 = k := by
      have := (List.findIdx?_eq_some_iff_getElem.1 h1).2.1
      simpa using (of_decide_eq_true this).symm
    have hkj : es[j].key = encKey k := by
      have h2 : (es.toList.map (fun e => (e.key, e.val)))[j]? = (l.map (fun p => (encKey p.1, encV p.2)))[j]? := by rw [hl]
      simp [hjs, hj, hjk] at h2
      exact h2.1
    refine ⟨es.modify j fun e => { e with key := encKey k, val := encV v }, clock, ⟨?_, ?_, ?_, ?_⟩, ?_⟩
    · apply List.ext_getElem?
      intro i
      have h2 : (es.toList.map (fun e => (e.key, e.val)))[i]? = (l.map (fun p => (encKey p.1, encV p.2)))[i]? := by rw [hl]
      by_cases hij : i = j
      · subst hij
        simp [assocPut, h1, hjs, hj]
      · have hji : ¬ j = i := fun h => hij h.symm
        simp [assocPut, h1, hji] at h2 ⊢
        exact h2
    · intro e he
      obtain ⟨i, hi, rfl⟩ := List.getElem_of_mem he
      simp at hi
      simp only [Array.getElem_toList, Array.getElem_modify]
      split
      iterate 2
       · exact hborn es[i] (by simp)
    · have : (es.modify j fun e => { e with key := encKey k, val := encV v }).toList.map (·.born) = es.toList.map (·.born) := by
        apply List.ext_getElem?
        intro i
        by_cases hij : j = i
        · subst hij; simp [hjs]
        · simp [hij]
      rw [this]; exact hnd
    · have : (assocPut l k v).map (·.1) = l.map (·.1) := by
        simp only [assocPut, h1]
        apply List.ext_getElem?
        intro i
        by_cases hij : j = i
        · subst hij; simp [hj, hjk]
        · simp [hij]
      rw [this]; exact hkd
    · intro b w hb
      simp only [Instr.mapUpdate, Sem.run_bind, run_underlying hT, MapKept.run_getObj_map hb, hK.chk, Result.andThen, hf, h1, Option.bind_some, List.getElem?_eq_getElem hj, Option.map_some, MapKept.run_setObj_map _ hb,
        Array.getElem?_eq_getElem hjs, Option.getD_some, hkj, run_sameKeyStays]
      rfl

theorem run_mapDelete (hK : KeyOK P K) (hT : P.underlying T = some (.map K E)) (h : MapRep es clock encV l) (k : GKey) :
    ∃ es' clock', MapRep es' clock' encV (assocDel l k) ∧ ∀ (b : Nat) (w : World) (ts : Array TypeId) (R : TypeId), ts[0]? = some T → w.heap[b]? = some (.map es clock) →
      (Builtin.delete_ ts R #[.map (some b), encKey k]).run P w = .ok (.tuple #[]) (Wset w b (.map es' clock')) := by
  obtain ⟨hl, hborn, hnd, hkd⟩ := h
  have hf := fun w => run_findKey hK k w encV l es.toList hl
  have hlen : es.toList.length = l.length := by simpa using congrArg List.length hl
  cases h1 : (l.findIdx? fun p => decide (k = p.1)) with
  | none =>
    refine ⟨es, clock, ⟨by simpa [assocDel, h1] using hl, hborn, hnd, by simpa [assocDel, h1] using hkd⟩, ?_⟩
    intro b w ts R hts hb
    simp [Builtin.delete_, hts, run_underlying hT, MapKept.run_getObj_map hb, hK.chk, Result.andThen, hf, h1, MapKept.run_setObj_map _ hb]
    rfl
  | some j =>
    have hj : j < l.length := (List.findIdx?_eq_some_iff_findIdx_eq.1 h1).1
    have hjs : j < es.size := by simpa using (hlen ▸ hj : j < es.toList.length)
    have e1 : (es.eraseIdxIfInBounds j).toList = es.toList.eraseIdx j := by simp
    refine ⟨es.eraseIdxIfInBounds j, clock, ⟨?_, ?_, ?_, ?_⟩, ?_⟩
    · simp only [e1, assocDel, h1, map_eraseIdx, hl]
    · intro e he; rw [e1] at he; exact hborn e (List.mem_of_mem_eraseIdx he)
    · rw [e1, map_eraseIdx]; exact hnd.eraseIdx j
    · simp only [assocDel, h1, map_eraseIdx]; exact hkd.eraseIdx j
    · intro b w ts R hts hb
      simp [Builtin.delete_, hts, run_underlying hT, MapKept.run_getObj_map hb, hK.chk, Result.andThen, hf, h1, hj, MapKept.run_setObj_map _ hb]
      rfl

theorem run_mapLen (hT : P.underlying T = some (.map K E)) (h : MapRep es clock encV l) (w : World) (ts : Array TypeId) (R : TypeId) (hts : ts[0]? = some T) (hb : w.heap[b]? = some (.map es clock)) :
    (Builtin.len_ ts R #[.map (some b)]).run P w = .ok (.int .i64 l.length) w := by
  have hlen : es.size = l.length := by simpa using congrArg List.length h.eq
  simp [Builtin.len_, hts, run_underlying hT, MapKept.run_getObj_map hb, Result.andThen, hlen, goInt]
end

/-! ### blocks of the heap behind what a walk does -/
end Go.Proofs.Ytobpohjhhelljaa
