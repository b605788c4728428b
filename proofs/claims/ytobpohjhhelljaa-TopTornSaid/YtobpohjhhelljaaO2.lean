/- Layer 3 (object): objects, what their kinds name, the names of attachments. -/
import Derived.Test.YtobpohjhhelljaaO1
import Derived.Test.YtobpohjhhelljaaShelf
namespace Go.Proofs.Ytobpohjhhelljaa
open Go.RowKit
set_option linter.unusedVariables false
set_option linter.unusedSimpArgs false


structure Obj where
  kind : Int
  name : ByteArray
  version : Int
  born : Int
  deleting : Bool
  hold : Bool
  cls : ByteArray
  size : Int
  got : Int
  mode : Int
  keep : Bool
  wait : Bool
  zone : ByteArray
  node : ByteArray
  claim : ByteArray
  volume : ByteArray
  source : ByteArray
  phase : Int
  num : Int
  tag : Int
  deriving DecidableEq

abbrev noText : ByteArray := ⟨#[]⟩
/-- an object's cells -/
def cellsO (o : Obj) : Array Value := #[.int .u8 o.kind, .string o.name, .int .u64 o.version, .int .u64 o.born, .bool o.deleting, .bool o.hold, .string o.cls, .int .i64 o.size, .int .i64 o.got, .int .u8 o.mode, .bool o.keep, .bool o.wait, .string o.zone, .string o.node, .string o.claim, .string o.volume, .string o.source, .int .u8 o.phase, .int .u64 o.num, .int .u64 o.tag]
@[simp, go_sem] theorem cellsO_size (o : Obj) : (cellsO o).size = 20 := by simp [cellsO]
@[simp, go_sem] theorem cellsO_get0 (o : Obj) : (cellsO o)[0]? = some (.int .u8 o.kind) := by simp [cellsO]
@[simp, go_sem] theorem cellsO_at0 (o : Obj) (h : 0 < (cellsO o).size) : (cellsO o)[0] = .int .u8 o.kind := by simp [cellsO]
@[simp, go_sem] theorem cellsO_set0 (o : Obj) (x : Int) : (cellsO o).setIfInBounds 0 (.int .u8 x) = cellsO { o with kind := x } := by simp [cellsO]
@[simp, go_sem] theorem cellsO_get1 (o : Obj) : (cellsO o)[1]? = some (.string o.name) := by simp [cellsO]
@[simp, go_sem] theorem cellsO_at1 (o : Obj) (h : 1 < (cellsO o).size) : (cellsO o)[1] = .string o.name := by simp [cellsO]
@[simp, go_sem] theorem cellsO_set1 (o : Obj) (x : ByteArray) : (cellsO o).setIfInBounds 1 (.string x) = cellsO { o with name := x } := by simp [cellsO]
@[simp, go_sem] theorem cellsO_get2 (o : Obj) : (cellsO o)[2]? = some (.int .u64 o.version) := by simp [cellsO]
@[simp, go_sem] theorem cellsO_at2 (o : Obj) (h : 2 < (cellsO o).size) : (cellsO o)[2] = .int .u64 o.version := by simp [cellsO]
@[simp, go_sem] theorem cellsO_set2 (o : Obj) (x : Int) : (cellsO o).setIfInBounds 2 (.int .u64 x) = cellsO { o with version := x } := by simp [cellsO]
@[simp, go_sem] theorem cellsO_get3 (o : Obj) : (cellsO o)[3]? = some (.int .u64 o.born) := by simp [cellsO]
@[simp, go_sem] theorem cellsO_at3 (o : Obj) (h : 3 < (cellsO o).size) : (cellsO o)[3] = .int .u64 o.born := by simp [cellsO]
@[simp, go_sem] theorem cellsO_set3 (o : Obj) (x : Int) : (cellsO o).setIfInBounds 3 (.int .u64 x) = cellsO { o with born := x } := by simp [cellsO]
@[simp, go_sem] theorem cellsO_get4 (o : Obj) : (cellsO o)[4]? = some (.bool o.deleting) := by simp [cellsO]
@[simp, go_sem] theorem cellsO_at4 (o : Obj) (h : 4 < (cellsO o).size) : (cellsO o)[4] = .bool o.deleting := by simp [cellsO]
@[simp, go_sem] theorem cellsO_set4 (o : Obj) (x : Bool) : (cellsO o).setIfInBounds 4 (.bool x) = cellsO { o with deleting := x } := by simp [cellsO]
@[simp, go_sem] theorem cellsO_get5 (o : Obj) : (cellsO o)[5]? = some (.bool o.hold) := by simp [cellsO]
@[simp, go_sem] theorem cellsO_at5 (o : Obj) (h : 5 < (cellsO o).size) : (cellsO o)[5] = .bool o.hold := by simp [cellsO]
@[simp, go_sem] theorem cellsO_set5 (o : Obj) (x : Bool) : (cellsO o).setIfInBounds 5 (.bool x) = cellsO { o with hold := x } := by simp [cellsO]
@[simp, go_sem] theorem cellsO_get6 (o : Obj) : (cellsO o)[6]? = some (.string o.cls) := by simp [cellsO]
@[simp, go_sem] theorem cellsO_at6 (o : Obj) (h : 6 < (cellsO o).size) : (cellsO o)[6] = .string o.cls := by simp [cellsO]
@[simp, go_sem] theorem cellsO_set6 (o : Obj) (x : ByteArray) : (cellsO o).setIfInBounds 6 (.string x) = cellsO { o with cls := x } := by simp [cellsO]
@[simp, go_sem] theorem cellsO_get7 (o : Obj) : (cellsO o)[7]? = some (.int .i64 o.size) := by simp [cellsO]
@[simp, go_sem] theorem cellsO_at7 (o : Obj) (h : 7 < (cellsO o).size) : (cellsO o)[7] = .int .i64 o.size := by simp [cellsO]
@[simp, go_sem] theorem cellsO_set7 (o : Obj) (x : Int) : (cellsO o).setIfInBounds 7 (.int .i64 x) = cellsO { o with size := x } := by simp [cellsO]
@[simp, go_sem] theorem cellsO_get8 (o : Obj) : (cellsO o)[8]? = some (.int .i64 o.got) := by simp [cellsO]
@[simp, go_sem] theorem cellsO_at8 (o : Obj) (h : 8 < (cellsO o).size) : (cellsO o)[8] = .int .i64 o.got := by simp [cellsO]
@[simp, go_sem] theorem cellsO_set8 (o : Obj) (x : Int) : (cellsO o).setIfInBounds 8 (.int .i64 x) = cellsO { o with got := x } := by simp [cellsO]
@[simp, go_sem] theorem cellsO_get9 (o : Obj) : (cellsO o)[9]? = some (.int .u8 o.mode) := by simp [cellsO]
@[simp, go_sem] theorem cellsO_at9 (o : Obj) (h : 9 < (cellsO o).size) : (cellsO o)[9] = .int .u8 o.mode := by simp [cellsO]
@[simp, go_sem] theorem cellsO_set9 (o : Obj) (x : Int) : (cellsO o).setIfInBounds 9 (.int .u8 x) = cellsO { o with mode := x } := by simp [cellsO]
@[simp, go_sem] theorem cellsO_get10 (o : Obj) : (cellsO o)[10]? = some (.bool o.keep) := by simp [cellsO]
@[simp, go_sem] theorem cellsO_at10 (o : Obj) (h : 10 < (cellsO o).size) : (cellsO o)[10] = .bool o.keep := by simp [cellsO]
@[simp, go_sem] theorem cellsO_set10 (o : Obj) (x : Bool) : (cellsO o).setIfInBounds 10 (.bool x) = cellsO { o with keep := x } := by simp [cellsO]
@[simp, go_sem] theorem cellsO_get11 (o : Obj) : (cellsO o)[11]? = some (.bool o.wait) := by simp [cellsO]
@[simp, go_sem] theorem cellsO_at11 (o : Obj) (h : 11 < (cellsO o).size) : (cellsO o)[11] = .bool o.wait := by simp [cellsO]
@[simp, go_sem] theorem cellsO_set11 (o : Obj) (x : Bool) : (cellsO o).setIfInBounds 11 (.bool x) = cellsO { o with wait := x } := by simp [cellsO]
@[simp, go_sem] theorem cellsO_get12 (o : Obj) : (cellsO o)[12]? = some (.string o.zone) := by simp [cellsO]
@[simp, go_sem] theorem cellsO_at12 (o : Obj) (h : 12 < (cellsO o).size) : (cellsO o)[12] = .string o.zone := by simp [cellsO]
@[simp, go_sem] theorem cellsO_set12 (o : Obj) (x : ByteArray) : (cellsO o).setIfInBounds 12 (.string x) = cellsO { o with zone := x } := by simp [cellsO]
@[simp, go_sem] theorem cellsO_get13 (o : Obj) : (cellsO o)[13]? = some (.string o.node) := by simp [cellsO]
@[simp, go_sem] theorem cellsO_at13 (o : Obj) (h : 13 < (cellsO o).size) : (cellsO o)[13] = .string o.node := by simp [cellsO]
@[simp, go_sem] theorem cellsO_set13 (o : Obj) (x : ByteArray) : (cellsO o).setIfInBounds 13 (.string x) = cellsO { o with node := x } := by simp [cellsO]
@[simp, go_sem] theorem cellsO_get14 (o : Obj) : (cellsO o)[14]? = some (.string o.claim) := by simp [cellsO]
@[simp, go_sem] theorem cellsO_at14 (o : Obj) (h : 14 < (cellsO o).size) : (cellsO o)[14] = .string o.claim := by simp [cellsO]
@[simp, go_sem] theorem cellsO_set14 (o : Obj) (x : ByteArray) : (cellsO o).setIfInBounds 14 (.string x) = cellsO { o with claim := x } := by simp [cellsO]
@[simp, go_sem] theorem cellsO_get15 (o : Obj) : (cellsO o)[15]? = some (.string o.volume) := by simp [cellsO]
@[simp, go_sem] theorem cellsO_at15 (o : Obj) (h : 15 < (cellsO o).size) : (cellsO o)[15] = .string o.volume := by simp [cellsO]
@[simp, go_sem] theorem cellsO_set15 (o : Obj) (x : ByteArray) : (cellsO o).setIfInBounds 15 (.string x) = cellsO { o with volume := x } := by simp [cellsO]
@[simp, go_sem] theorem cellsO_get16 (o : Obj) : (cellsO o)[16]? = some (.string o.source) := by simp [cellsO]
@[simp, go_sem] theorem cellsO_at16 (o : Obj) (h : 16 < (cellsO o).size) : (cellsO o)[16] = .string o.source := by simp [cellsO]
@[simp, go_sem] theorem cellsO_set16 (o : Obj) (x : ByteArray) : (cellsO o).setIfInBounds 16 (.string x) = cellsO { o with source := x } := by simp [cellsO]
@[simp, go_sem] theorem cellsO_get17 (o : Obj) : (cellsO o)[17]? = some (.int .u8 o.phase) := by simp [cellsO]
@[simp, go_sem] theorem cellsO_at17 (o : Obj) (h : 17 < (cellsO o).size) : (cellsO o)[17] = .int .u8 o.phase := by simp [cellsO]
@[simp, go_sem] theorem cellsO_set17 (o : Obj) (x : Int) : (cellsO o).setIfInBounds 17 (.int .u8 x) = cellsO { o with phase := x } := by simp [cellsO]
@[simp, go_sem] theorem cellsO_get18 (o : Obj) : (cellsO o)[18]? = some (.int .u64 o.num) := by simp [cellsO]
@[simp, go_sem] theorem cellsO_at18 (o : Obj) (h : 18 < (cellsO o).size) : (cellsO o)[18] = .int .u64 o.num := by simp [cellsO]
@[simp, go_sem] theorem cellsO_set18 (o : Obj) (x : Int) : (cellsO o).setIfInBounds 18 (.int .u64 x) = cellsO { o with num := x } := by simp [cellsO]
@[simp, go_sem] theorem cellsO_get19 (o : Obj) : (cellsO o)[19]? = some (.int .u64 o.tag) := by simp [cellsO]
@[simp, go_sem] theorem cellsO_at19 (o : Obj) (h : 19 < (cellsO o).size) : (cellsO o)[19] = .int .u64 o.tag := by simp [cellsO]
@[simp, go_sem] theorem cellsO_set19 (o : Obj) (x : Int) : (cellsO o).setIfInBounds 19 (.int .u64 x) = cellsO { o with tag := x } := by simp [cellsO]
def bareO (k : Int) : Obj := ⟨k, noText, 0, 0, false, false, noText, 0, 0, 0, false, false, noText, noText, noText, noText, noText, 0, 0, 0⟩

/-- an object without what its kind names -/
def restO (o : Obj) : Obj :=
  let o := { o with name := noText, version := 0, born := 0, deleting := false, hold := false }
  if o.kind = 1 then { o with zone := noText, wait := false, keep := false }
  else if o.kind = 2 then { o with zone := noText }
  else if o.kind = 3 then { o with cls := noText, size := 0, got := 0, mode := 0, zone := noText, node := noText, volume := noText, source := noText, phase := 0, num := 0 }
  else if o.kind = 4 then { o with cls := noText, size := 0, got := 0, mode := 0, keep := false, zone := noText, claim := noText, phase := 0, num := 0 }
  else if o.kind = 5 then { o with volume := noText, node := noText, phase := 0, num := 0 }
  else if o.kind = 6 then { o with claim := noText, node := noText }
  else if o.kind = 7 then { o with source := noText, volume := noText, got := 0, phase := 0, num := 0, tag := 0 }
  else o

theorem cells_of_block {w : World} {b : Nat} {cs : Array Value} {t : TypeId} (h : w.heap[b]? = some (.cells cs t (0, 0))) (o : Nat) (v : Value) (hv : cs[o]? = some v) :
    w.cell? ⟨b, o, none⟩ = some v ∧ w.frozen? ⟨b, o, none⟩ = false := by
  simp [World.cell?, World.frozen?, h, hv]
theorem heap_lt {w : World} {b : Nat} {o : Go.Obj} (h : w.heap[b]? = some o) : b < w.heap.size := (Array.getElem?_eq_some_iff.1 h).1

/-- the world with another object in a block -/
def Wset (w : World) (b : Nat) (o : Go.Obj) : World := { w with heap := w.heap.setIfInBounds b o }

theorem load_cells {P : Program} {b : Nat} {cs : Array Value} {w : World} (h : ∀ k, w.cell? ⟨b, k, none⟩ = cs[k]?) :
    ∀ (n i : Nat) (acc : Array Value), i + n = cs.size → acc = cs.extract 0 i → (loadCellsFrom ⟨b, 0, none⟩ i n acc).run P w = .ok cs w
  | 0, i, acc, hi, ha => by
    have : i = cs.size := by omega
    subst this; subst ha
    simp [loadCellsFrom]
  | n + 1, i, acc, hi, ha => by
    have hlt : i < cs.size := by omega
    have e : (Addr.add ⟨b, 0, none⟩ i) = ⟨b, i, none⟩ := by
      unfold Addr.add; by_cases h0 : i = 0 <;> simp [h0]
    have hc := h i
    rw [Array.getElem?_eq_getElem hlt] at hc
    simp only [loadCellsFrom, Sem.run_bind, load, e, Sem.run, hc, Result.andThen]
    refine load_cells h n (i + 1) _ (by omega) ?_
    subst ha
    simp [hlt]

theorem run_loadVar_obj (o : Obj) (b : Nat) (w : World) (h : ∀ k, w.cell? ⟨b, k, none⟩ = (cellsO o)[k]?) : (loadVar 31 ⟨b, 0, none⟩).run Try.prog w = .ok (.agg (cellsO o)) w := by
  have := load_cells (P := Try.prog) h 20 0 #[] (by simp) (by simp)
  have h1 : (isAgg 31).run Try.prog w = .ok true w := by kernel_rfl
  have h2 : (sizeOf 31).run Try.prog w = .ok 20 w := by kernel_rfl
  simp only [loadVar, Sem.run_bind, h1, h2, Result.andThen, loadCells, this, if_true, Sem.run_pure]

theorem setCell_block {w : World} {b i : Nat} {cs : Array Value} {t : TypeId} {fr : Nat × Nat} (h : w.heap[b]? = some (.cells cs t fr)) (v : Value) :
    w.setCell ⟨b, i, none⟩ v = Wset w b (.cells (cs.setIfInBounds i v) t fr) := by
  unfold World.setCell Wset
  congr 1
  apply Array.ext_getElem?
  intro k
  by_cases hk : b = k
  · subst hk
    have := (Array.getElem?_eq_some_iff.1 h).1
    rw [Array.getElem?_setIfInBounds_self_of_lt this]
    simp [Array.getElem?_modify, h]
  · simp [Array.getElem?_modify, hk, Array.getElem?_setIfInBounds_ne hk]
theorem Wset_same {w : World} {b : Nat} {o : Go.Obj} (h : b < w.heap.size) : (Wset w b o).heap[b]? = some o := by simp [Wset, h]
theorem Wset_ne {w : World} {b c : Nat} {o : Go.Obj} (h : c ≠ b) : (Wset w b o).heap[c]? = w.heap[c]? := by
  simp only [Wset]; rw [Array.getElem?_setIfInBounds_ne (fun e => h e.symm)]
theorem Wset_twice {w : World} {b : Nat} {o p : Go.Obj} : Wset (Wset w b o) b p = Wset w b p := by simp [Wset]

def oneV : Value → Bool
  | .agg _ | .tuple _ => false
  | _ => true

theorem store_cells {P : Program} {b : Nat} {t : TypeId} (all : Array Value) (hone : ∀ v ∈ all.toList, oneV v = true) : ∀ (vs : List Value) (i : Nat) (cs : Array Value) (w : World), w.heap[b]? = some (.cells cs t (0, 0)) → cs.size = all.size → vs = all.toList.drop i →
    cs.toList.take i = all.toList.take i → (storeCells ⟨b, 0, none⟩ vs i).run P w = .ok () (Wset w b (.cells all t (0, 0)))
  | [], i, cs, w, h, hs, hv, hp => by
    have hi : all.size ≤ i := by simpa using (List.drop_eq_nil_iff.1 hv.symm)
    have : cs = all := by
      apply Array.toList_inj.1
      rw [List.take_of_length_le (by simp; omega), List.take_of_length_le (by simp; omega)] at hp
      exact hp
    subst this
    have e : Wset w b (.cells cs t (0, 0)) = w := by
      unfold Wset
      have hb := (Array.getElem?_eq_some_iff.1 h)
      congr 1
      apply Array.ext_getElem?
      intro k
      by_cases hk : b = k
      · subst hk; simp [hb.1, hb.2]
      · simp [Array.getElem?_setIfInBounds_ne hk]
    rw [e]
    simp [storeCells]
  | v :: vs, i, cs, w, h, hs, hv, hp => by
    have hi : i < all.size := by
      rcases Nat.lt_or_ge i all.size with h1 | h1
      · exact h1
      · rw [List.drop_eq_nil_of_le (by simpa using h1)] at hv; cases hv
    have hvi : v = all[i] ∧ vs = all.toList.drop (i + 1) := by
      rw [List.drop_eq_getElem_cons (by simpa using hi)] at hv
      simpa using hv
    have e : (Addr.add ⟨b, 0, none⟩ i) = ⟨b, i, none⟩ := by
      unfold Addr.add; by_cases h0 : i = 0 <;> simp [h0]
    have hc : ∃ u, w.cell? ⟨b, i, none⟩ = some u := ⟨cs[i]'(by omega), by simp [World.cell?, h, hs, hi]⟩
    obtain ⟨u, hc⟩ := hc
    have hf : w.frozen? ⟨b, i, none⟩ = false := by simp [World.frozen?, h]
    have hv1 : oneV v = true := hone v (by rw [hvi.1]; simp)
    have hst : (store ⟨b, i, none⟩ v).run P w = .ok () (w.setCell ⟨b, i, none⟩ v) := by
      unfold store
      cases v <;> simp [oneV] at hv1 <;> simp [Sem.run, hc, hf]
    simp only [storeCells, Sem.run_bind, e, hst, Result.andThen]
    rw [setCell_block h v]
    have hb := (Array.getElem?_eq_some_iff.1 h).1
    rw [store_cells all hone vs (i + 1) (cs.setIfInBounds i v) _ (Wset_same hb) (by simp [hs]) hvi.2 ?_, Wset_twice]
    apply List.ext_getElem?
    intro k
    have hpk : (cs.toList.take i)[k]? = (all.toList.take i)[k]? := by rw [hp]
    simp only [List.getElem?_take, Array.toList_setIfInBounds, List.getElem?_set, Array.getElem?_toList, Array.length_toList] at hpk ⊢
    by_cases h1 : k < i + 1
    · by_cases h2 : i = k
      · subst h2; simp [hs, hi, hvi.1]
      · have h3 : k < i := by omega
        simp [h3] at hpk
        simp [h1, h2, hpk]
    · simp [h1]

theorem run_storeVar_obj (o : Obj) (b : Nat) (cs : Array Value) (w : World) (h : w.heap[b]? = some (.cells cs 31 (0, 0))) (hs : cs.size = 20) :
    (storeVar 31 ⟨b, 0, none⟩ (.agg (cellsO o))).run Try.prog w = .ok () (Wset w b (.cells (cellsO o) 31 (0, 0))) := by
  have h2 : (sizeOf 31).run Try.prog w = .ok 20 w := by kernel_rfl
  have := store_cells (P := Try.prog) (b := b) (t := 31) (cellsO o) (by intro v hv; simp [cellsO] at hv; rcases hv with h | h | h | h | h | h | h | h | h | h | h | h | h | h | h | h | h | h | h | h <;> subst h <;> rfl) (cellsO o).toList 0 cs w h (by simp [hs]) (by simp) (by simp)
  simp only [storeVar, Sem.run_bind, h2, Result.andThen, Value.cells, cellsO_size]
  simpa using this

theorem heap_alloc_lt {w : World} {o : Go.Obj} {b : Nat} (h : b < w.heap.size) : (w.alloc o).heap[b]? = w.heap[b]? := Below.heap_alloc w o b h
theorem heap_alloc_eq {w : World} {o : Go.Obj} : (w.alloc o).heap[w.heap.size]? = some o := by
  show (w.heap.push o)[w.heap.size]? = _
  simp
theorem Wset_alloc {w : World} {o p : Go.Obj} : Wset (w.alloc o) w.heap.size p = w.alloc p := by
  unfold Wset World.alloc
  congr 1
  apply Array.ext_getElem?
  intro k
  by_cases hk : w.heap.size = k
  · subst hk; simp
  · rw [Array.getElem?_setIfInBounds_ne hk]
    simp [Array.getElem?_push, Ne.symm hk]
theorem cells_all {w : World} {b : Nat} {cs : Array Value} {t : TypeId} {fr : Nat × Nat} (h : w.heap[b]? = some (.cells cs t fr)) (k : Nat) : w.cell? ⟨b, k, none⟩ = cs[k]? := by
  simp [World.cell?, h]
theorem frozen_all {w : World} {b : Nat} {cs : Array Value} {t : TypeId} (h : w.heap[b]? = some (.cells cs t (0, 0))) (k : Nat) : w.frozen? ⟨b, k, none⟩ = false := by
  simp [World.frozen?, h]

theorem run_sureAddr {P : Program} (b k : Nat) (w : World) : (Instr.sureAddr (.pointer (some ⟨b, k, none⟩))).run P w = .ok ⟨b, k, none⟩ w := by
  simp [Instr.sureAddr]

theorem exec_loadObj {o : Oper} {a : Act} {w : World} {x : Operand} {b : Nat} (p : Obj) (hop : o.op = .load 31 x) (hx : a.eval x = .pointer (some ⟨b, 0, none⟩)) (h : ∀ k, w.cell? ⟨b, k, none⟩ = (cellsO p)[k]?) :
    (execOp a.eval o).run Try.prog w = .ok (.value (.agg (cellsO p))) w := by
  have := run_loadVar_obj p b w h
  simp [execOp, hop, hx, Instr.loadAt, run_sureAddr, this, Result.andThen]

theorem exec_storeObj {o : Oper} {a : Act} {w : World} {x y : Operand} {b : Nat} {cs : Array Value} (p : Obj) (hop : o.op = .store 31 x y) (hx : a.eval x = .pointer (some ⟨b, 0, none⟩)) (hy : a.eval y = .agg (cellsO p))
    (h : w.heap[b]? = some (.cells cs 31 (0, 0))) (hs : cs.size = 20) :
    (execOp a.eval o).run Try.prog w = .ok .skip (Wset w b (.cells (cellsO p) 31 (0, 0))) := by
  have := run_storeVar_obj p b cs w h hs
  simp [execOp, hop, hx, hy, Instr.storeAt, run_sureAddr, this, Result.andThen]

theorem wpList_loadObj {ops : Array Oper} {Q : Exit → Act → World → Prop} {o : Oper} {rest : List Oper} {a : Act} {w : World} (hg : o.guard = none) (x : Operand) (hop : o.op = .load 31 x) (b : Nat) (hx : a.eval x = .pointer (some ⟨b, 0, none⟩))
    (p : Obj) (h : ∀ k, w.cell? ⟨b, k, none⟩ = (cellsO p)[k]?) (hK : wpList Try.prog ops Q rest (a.put o.dst (.agg (cellsO p))) w) : wpList Try.prog ops Q (o :: rest) a w :=
  wpList_plain hg fun K hK' => by
    unfold Oper.wp
    rw [exec_loadObj p hop hx h]
    exact hK' _ _ hK
theorem wpList_storeObj {ops : Array Oper} {Q : Exit → Act → World → Prop} {o : Oper} {rest : List Oper} {a : Act} {w : World} (hg : o.guard = none) (x y : Operand) (hop : o.op = .store 31 x y) (b : Nat) (hx : a.eval x = .pointer (some ⟨b, 0, none⟩))
    (p : Obj) (hy : a.eval y = .agg (cellsO p)) (cs : Array Value) (h : w.heap[b]? = some (.cells cs 31 (0, 0))) (hs : cs.size = 20) (hK : wpList Try.prog ops Q rest (a.put o.dst undef) (Wset w b (.cells (cellsO p) 31 (0, 0)))) :
    wpList Try.prog ops Q (o :: rest) a w :=
  wpList_plain hg fun K hK' => by
    unfold Oper.wp
    rw [exec_storeObj p hop hx hy h hs]
    exact hK' _ _ hK

theorem results_obj {fn : Func} {tmps : Array Value} {w : World} {b : Nat} {t : Tmp} (p : Obj) (hr : fn.results = #[.cell t 31]) (ht : tmps[t]?.getD undef = .pointer (some ⟨b, 0, none⟩)) (h : ∀ k, w.cell? ⟨b, k, none⟩ = (cellsO p)[k]?) :
    (results fn tmps).run Try.prog w = .ok (.agg (cellsO p)) w := by
  have h0 := run_loadVar_obj p b w h
  simp [results, hr, ht, asAddr, h0, Result.andThen]

end Go.Proofs.Ytobpohjhhelljaa
