/- A part of the walks: contracts of functions. -/
import Derived.Test.YtemeedfldapcjaaBase
import Derived.Test.YtemeedfldapcjaaReg
import Derived.Lib.Hide
namespace Go.Proofs.Ytemeedfldapcjaa
open Go.RowKit
set_option linter.unusedVariables false
set_option linter.unusedSimpArgs false
theorem key_ext {a b : GKey} : a = b ↔ a.kind = b.kind ∧ a.name.toList = b.name.toList := by
  constructor
  · rintro rfl; exact ⟨rfl, rfl⟩
  · rintro ⟨h1, h2⟩
    cases a; cases b
    simp only [ByteArray.toList_eq] at h2
    simp at h1
    subst h1
    congr 1
    rename_i x y
    obtain ⟨⟨x⟩⟩ := x
    obtain ⟨⟨y⟩⟩ := y
    simp at h2; rw [h2]

theorem keyOK : KeyOK Try.prog 28 where
  und := ⟨Try.prog.fieldsOf 28, by kernel_rfl⟩
  chk k b w := by
    have : ∀ n, (Instr.checkKey b (n + 1 + 1) 28 (encKey k)).run Try.prog w = .ok () w := by
      intro n
      simp [Instr.checkKey, run_underlying Try.underlying28, run_underlying Try.underlying26, run_underlying Try.underlying9, go_sem, Result.andThen]
    exact this 9998
  eq k k' w := by
    unfold Op.equal Op.maxDepth
    rw [run_equalIn_agg w 9999 28 _ _ (by kernel_rfl) (by kernel_rfl)]
    simp [Program.fieldsOf, Try.underlying28, Op.eqFields, go_sem]
    by_cases h : k = k'
    · subst h; simp
    · have : ¬ (k.kind = k'.kind ∧ k.name.toList = k'.name.toList) := fun hh => h (key_ext.2 hh)
      simp [h]
      intro h1
      by_cases h2 : k.name.toList = k'.name.toList
      · exact absurd ⟨h1, h2⟩ this
      · simp [h2]

structure QLoc where
  bq : Nat
  bw : Nat
  bf : Nat
structure WQ where
  waits : List (GKey × (Int × Int))
  fails : List (GKey × Int)
  next : Int
abbrev encWait (p : Int × Int) : Value := .agg #[.int .i64 p.1, .int .u64 p.2]
abbrev encInt (n : Int) : Value := .int .i64 n

def QHead (L : QLoc) (n : Int) : Obj := .cells #[.map (some L.bw), .map (some L.bf), .int .i64 n] 62 (0, 0)

structure QAt (w : World) (L : QLoc) (q : WQ) : Prop where
  hd : w.heap[L.bq]? = some (.cells #[.map (some L.bw), .map (some L.bf), .int .i64 q.next] 62 (0, 0))
  hw : ∃ es c, w.heap[L.bw]? = some (.map es c) ∧ MapRep es c encWait q.waits
  hf : ∃ es c, w.heap[L.bf]? = some (.map es c) ∧ MapRep es c encInt q.fails
  ne : L.bw ≠ L.bf

def QLoc.mine (L : QLoc) (k : Nat) : Prop := k = L.bq ∨ k = L.bw ∨ k = L.bf

theorem zero66 (w : World) : (zeroValue 66).run Try.prog w = .ok (encWait (0, 0)) w := by kernel_rfl
theorem zero3 (w : World) : (zeroValue 3).run Try.prog w = .ok (encInt 0) w := by kernel_rfl

theorem QAt.apart {w : World} {L : QLoc} {q : WQ} (h : QAt w L q) : L.bq ≠ L.bw ∧ L.bq ≠ L.bf := by
  obtain ⟨h1, ⟨es, c, h2, _⟩, ⟨es', c', h3, _⟩, _⟩ := h
  constructor
  · intro e; rw [e, h2] at h1; cases h1
  · intro e; rw [e, h3] at h1; cases h1

theorem QAt.keep {w w' : World} {L : QLoc} {q : WQ} (h : QAt w L q) {F : Nat → Prop} (hk : Keeps F w w') (h1 : ¬ F L.bq) (h2 : ¬ F L.bw) (h3 : ¬ F L.bf) : QAt w' L q := by
  obtain ⟨a, ⟨es, c, b, r⟩, ⟨es', c', b', r'⟩, ne⟩ := h
  exact ⟨(hk.block _ (heap_lt a) h1).trans a, ⟨es, c, (hk.block _ (heap_lt b) h2).trans b, r⟩, ⟨es', c', (hk.block _ (heap_lt b') h3).trans b', r'⟩, ne⟩

set_option maxRecDepth 100000 in
set_option maxHeartbeats 1000000 in
theorem put_full (L : QLoc) (q : WQ) (k : GKey) (due : Value) (w : World) (h : QAt w L q) (hn : assoc q.waits k = none) (hl : 256 ≤ q.waits.length) :
    Calls Try.prog 29 #[.pointer (some ⟨L.bq, 0, none⟩), .agg #[.int .u8 k.kind, .string k.name], due] w fun e w' => e = .returned (.int .i64 7) ∧ Below w.heap.size w w' := by
  obtain ⟨hd, ⟨es, c, hbw, hr⟩, _, _⟩ := h
  obtain ⟨c0, f0⟩ := cells_of_block hd 0 (.map (some L.bw)) rfl
  obtain ⟨c1, f1⟩ := cells_of_block hd 1 (.map (some L.bf)) rfl
  obtain ⟨c2, f2⟩ := cells_of_block hd 2 (.int .i64 q.next) rfl
  have hL : ∀ x : World, x.heap[L.bw]? = some (.map es c) → (Instr.lookup 59 (.map (some L.bw)) (.agg #[.int .u8 k.kind, .string k.name]) true).run Try.prog x = .ok (.tuple #[.agg #[.int .i64 0, .int .u64 0], .bool false]) x := by
    intro x hx
    have := run_lookup_ok keyOK Try.underlying59 (0, 0) zero66 hr k x hx
    rw [hn] at this; exact this
  have hN : ∀ x : World, x.heap[L.bw]? = some (.map es c) → (Builtin.len_ #[59] 3 #[.map (some L.bw)]).run Try.prog x = .ok (.int .i64 q.waits.length) x := 
    fun x hx => run_mapLen Try.underlying59 hr x _ _ rfl hx
  have hlw := heap_lt hbw
  have hbq := heap_lt hd
  clear hr hd hn
  go_enter Try.func29, Try.ntmps29
  go_wp2
  refine wp_region_N (fun w' => (w'.cell? ⟨L.bq, 0, none⟩ = some (.map (some L.bw))) ∧ (w'.cell? ⟨w.heap.size, 0, none⟩ = some (.int .u8 k.kind)) ∧ (w'.cell? ⟨w.heap.size, 1, none⟩ = some (.string k.name)) ∧ (w'.heap[L.bw]? = some (.map es c)))
    [(true, 0), (true, 1), (true, 2), (true, 3), (true, 4), (true, 5), (true, 6), (true, 7), (true, 8), (false, 9), (false, 10), (true, 11)] (by kernel_rfl) (by kernel_rfl) rfl (by kernel_rfl) ?_ ?_
  · exact ⟨by first | go_keep | exact (heap_alloc_lt hlw).trans hbw | exact (heap_alloc_lt (by simp; omega)).trans ((heap_alloc_lt hlw).trans hbw), by first | go_keep | exact (heap_alloc_lt hlw).trans hbw | exact (heap_alloc_lt (by simp; omega)).trans ((heap_alloc_lt hlw).trans hbw), by first | go_keep | exact (heap_alloc_lt hlw).trans hbw | exact (heap_alloc_lt (by simp; omega)).trans ((heap_alloc_lt hlw).trans hbw), by first | go_keep | exact (heap_alloc_lt hlw).trans hbw | exact (heap_alloc_lt (by simp; omega)).trans ((heap_alloc_lt hlw).trans hbw)⟩
  simp only [List.filterMap_cons, List.filterMap_nil, List.getElem?_cons_succ, List.getElem?_cons_zero, Option.map_some]
  apply wpSeq_takeK _ (by first | rfl | (simp [Region.wanted, yielded]; done))
  · intro w' hS
    obtain ⟨s0, s1, s2, s3⟩ := hS
    skip
    go_simp
    try rfl
  intro K hK
  go_simp
  refine hK _ ?_
  clear hK K
  apply wpSeq_takeK _ (by first | rfl | (simp [Region.wanted, yielded]; done))
  · intro w' hS
    obtain ⟨s0, s1, s2, s3⟩ := hS
    skip
    go_simp
    try rfl
  intro K hK
  go_simp
  refine hK _ ?_
  clear hK K
  apply wpSeq_takeK _ (by first | rfl | (simp [Region.wanted, yielded]; done))
  · intro w' hS
    obtain ⟨s0, s1, s2, s3⟩ := hS
    skip
    go_simp
    try rfl
  intro K hK
  go_simp
  refine hK _ ?_
  clear hK K
  apply wpSeq_takeK _ (by first | rfl | (simp [Region.wanted, yielded]; done))
  · intro w' hS
    obtain ⟨s0, s1, s2, s3⟩ := hS
    skip
    go_simp
    try rfl
  intro K hK
  go_simp
  refine hK _ ?_
  clear hK K
  apply wpSeq_takeK _ (by first | rfl | (simp [Region.wanted, yielded]; done))
  · intro w' hS
    obtain ⟨s0, s1, s2, s3⟩ := hS
    skip
    go_simp
    try rfl
  intro K hK
  go_simp
  refine hK _ ?_
  clear hK K
  apply wpSeq_takeK _ (by first | rfl | (simp [Region.wanted, yielded]; done))
  · intro w' hS
    obtain ⟨s0, s1, s2, s3⟩ := hS
    skip
    go_simp
    try rfl
  intro K hK
  go_simp
  refine hK _ ?_
  clear hK K
  apply wpSeq_takeK _ (by first | rfl | (simp [Region.wanted, yielded]; done))
  · intro w' hS
    obtain ⟨s0, s1, s2, s3⟩ := hS
    skip
    go_simp
    try rfl
  intro K hK
  go_simp
  refine hK _ ?_
  clear hK K
  apply wpSeq_takeK _ (by first | rfl | (simp [Region.wanted, yielded]; done))
  · intro w' hS
    obtain ⟨s0, s1, s2, s3⟩ := hS
    skip
    go_simp
    try rfl
  intro K hK
  go_simp
  refine hK _ ?_
  clear hK K
  apply wpSeq_takeK _ (by first | rfl | (simp [Region.wanted, yielded]; done))
  · intro w' hS
    obtain ⟨s0, s1, s2, s3⟩ := hS
    skip
    go_simp
    try rfl
  intro K hK
  go_simp
  refine hK _ ?_
  clear hK K
  refine wpSeq_alone ?_
  go_wp2
  refine QS_normal ⟨by first | go_keep | exact (heap_alloc_lt hlw).trans hbw | exact (heap_alloc_lt (by simp; omega)).trans ((heap_alloc_lt hlw).trans hbw), by first | go_keep | exact (heap_alloc_lt hlw).trans hbw | exact (heap_alloc_lt (by simp; omega)).trans ((heap_alloc_lt hlw).trans hbw), by first | go_keep | exact (heap_alloc_lt hlw).trans hbw | exact (heap_alloc_lt (by simp; omega)).trans ((heap_alloc_lt hlw).trans hbw), by first | go_keep | exact (heap_alloc_lt hlw).trans hbw | exact (heap_alloc_lt (by simp; omega)).trans ((heap_alloc_lt hlw).trans hbw)⟩ (fun _ => ?_)
  refine wpSeq_alone ?_
  go_wp2
  refine QS_normal ⟨by first | go_keep | exact (heap_alloc_lt hlw).trans hbw | exact (heap_alloc_lt (by simp; omega)).trans ((heap_alloc_lt hlw).trans hbw), by first | go_keep | exact (heap_alloc_lt hlw).trans hbw | exact (heap_alloc_lt (by simp; omega)).trans ((heap_alloc_lt hlw).trans hbw), by first | go_keep | exact (heap_alloc_lt hlw).trans hbw | exact (heap_alloc_lt (by simp; omega)).trans ((heap_alloc_lt hlw).trans hbw), by first | go_keep | exact (heap_alloc_lt hlw).trans hbw | exact (heap_alloc_lt (by simp; omega)).trans ((heap_alloc_lt hlw).trans hbw)⟩ (fun _ => ?_)
  apply wpSeq_takeK _ (by first | rfl | (simp [Region.wanted, yielded]; done))
  · intro w' hS
    obtain ⟨s0, s1, s2, s3⟩ := hS
    skip
    go_simp
    try rfl
  intro K hK
  go_simp
  refine hK _ ?_
  clear hK K
  refine wpSeq_end ?_
  have hN2 := hN _ (show ((w.alloc (Obj.cells #[Value.int IntKind.u8 k.kind, Value.string k.name] 28)).alloc (Obj.cells #[Value.int IntKind.i64 0, Value.int IntKind.u64 0] 66)).drew.heap[L.bw]? = _ from (heap_alloc_lt (by simp; omega)).trans ((heap_alloc_lt hlw).trans hbw))
  clear hL hN
  go_wp2_with fail
  go_wp2
  all_goals (try (exfalso; omega))
  go_ret
  exact ⟨rfl, (((Below.refl _ _).alloc (Nat.le_refl _) _).alloc (by simp) _).drew⟩

/-- what the function that tells when a key is due does -/
def DueDoes (L : QLoc) (w : World) (fails : List (GKey × Int)) (fd : Nat) (caps : Array Value) (d : Int) (f' : List (GKey × Int)) : Prop :=
  ∀ w1 q1, QAt w1 L q1 → q1.fails = fails → Keeps L.mine w w1 → Calls Try.prog fd caps w1 fun e w2 => e = .returned (.int .u64 d) ∧ QAt w2 L { q1 with fails := f' } ∧ Keeps (· = L.bf) w1 w2

def WQ.put (q : WQ) (k : GKey) (d : Int) (f' : List (GKey × Int)) : WQ :=
  match assoc q.waits k with
  | some p => { q with waits := assocPut q.waits k (p.1, d), fails := f' }
  | none => { waits := assocPut q.waits k (q.next + 1, d), fails := f', next := q.next + 1 }

set_option maxRecDepth 100000 in
set_option maxHeartbeats 1000000 in
theorem put_new (L : QLoc) (q : WQ) (k : GKey) (fd : Nat) (caps : Array Value) (d : Int) (f' : List (GKey × Int)) (w : World) (h : QAt w L q) (hn : assoc q.waits k = none) (hl : q.waits.length < 256)
    (hnx : 0 ≤ q.next ∧ q.next < 1000000000) (hdue : DueDoes L w q.fails fd caps d f') (hcf : ∀ w, (callFunc fd caps).run Try.prog w = .ok (.enter fd caps) w) :
    Calls Try.prog 29 #[.pointer (some ⟨L.bq, 0, none⟩), .agg #[.int .u8 k.kind, .string k.name], .func (.func fd) #[] caps] w fun e w' => e = .returned (.int .i64 0) ∧ QAt w' L (q.put k d f') ∧ Keeps L.mine w w' := by
  have hap := h.apart
  obtain ⟨hd, ⟨es, c, hbw, hr⟩, ⟨ef, cf, hbf, hrf⟩, hne⟩ := h
  obtain ⟨c0, f0⟩ := cells_of_block hd 0 (.map (some L.bw)) rfl
  obtain ⟨c1, f1⟩ := cells_of_block hd 1 (.map (some L.bf)) rfl
  obtain ⟨c2, f2⟩ := cells_of_block hd 2 (.int .i64 q.next) rfl
  have hL : ∀ x : World, x.heap[L.bw]? = some (.map es c) → (Instr.lookup 59 (.map (some L.bw)) (.agg #[.int .u8 k.kind, .string k.name]) true).run Try.prog x = .ok (.tuple #[.agg #[.int .i64 0, .int .u64 0], .bool false]) x := by
    intro x hx
    have := run_lookup_ok keyOK Try.underlying59 (0, 0) zero66 hr k x hx
    rw [hn] at this; exact this
  have hN : ∀ x : World, x.heap[L.bw]? = some (.map es c) → (Builtin.len_ #[59] 3 #[.map (some L.bw)]).run Try.prog x = .ok (.int .i64 q.waits.length) x := 
    fun x hx => run_mapLen Try.underlying59 hr x _ _ rfl hx
  have hlw := heap_lt hbw
  have hbq := heap_lt hd
  have hblf := heap_lt hbf
  obtain ⟨n0, n1⟩ := hnx
  obtain ⟨a1, a2⟩ := hap
  go_enter Try.func29, Try.ntmps29
  go_wp2
  refine wp_region_N (fun w' => (w'.cell? ⟨L.bq, 0, none⟩ = some (.map (some L.bw))) ∧ (w'.cell? ⟨w.heap.size, 0, none⟩ = some (.int .u8 k.kind)) ∧ (w'.cell? ⟨w.heap.size, 1, none⟩ = some (.string k.name)) ∧ (w'.heap[L.bw]? = some (.map es c)))
    [(true, 0), (true, 1), (true, 2), (true, 3), (true, 4), (true, 5), (true, 6), (true, 7), (true, 8), (false, 9), (false, 10), (true, 11)] (by kernel_rfl) (by kernel_rfl) rfl (by kernel_rfl) ?_ ?_
  · exact ⟨by first | go_keep | exact (heap_alloc_lt hlw).trans hbw | exact (heap_alloc_lt (by simp; omega)).trans ((heap_alloc_lt hlw).trans hbw), by first | go_keep | exact (heap_alloc_lt hlw).trans hbw | exact (heap_alloc_lt (by simp; omega)).trans ((heap_alloc_lt hlw).trans hbw), by first | go_keep | exact (heap_alloc_lt hlw).trans hbw | exact (heap_alloc_lt (by simp; omega)).trans ((heap_alloc_lt hlw).trans hbw), by first | go_keep | exact (heap_alloc_lt hlw).trans hbw | exact (heap_alloc_lt (by simp; omega)).trans ((heap_alloc_lt hlw).trans hbw)⟩
  simp only [List.filterMap_cons, List.filterMap_nil, List.getElem?_cons_succ, List.getElem?_cons_zero, Option.map_some]
  apply wpSeq_takeK _ (by first | rfl | (simp [Region.wanted, yielded]; done))
  · intro w' hS
    obtain ⟨s0, s1, s2, s3⟩ := hS
    skip
    go_simp
    try rfl
  intro K hK
  go_simp
  refine hK _ ?_
  clear hK K
  apply wpSeq_takeK _ (by first | rfl | (simp [Region.wanted, yielded]; done))
  · intro w' hS
    obtain ⟨s0, s1, s2, s3⟩ := hS
    skip
    go_simp
    try rfl
  intro K hK
  go_simp
  refine hK _ ?_
  clear hK K
  apply wpSeq_takeK _ (by first | rfl | (simp [Region.wanted, yielded]; done))
  · intro w' hS
    obtain ⟨s0, s1, s2, s3⟩ := hS
    skip
    go_simp
    try rfl
  intro K hK
  go_simp
  refine hK _ ?_
  clear hK K
  apply wpSeq_takeK _ (by first | rfl | (simp [Region.wanted, yielded]; done))
  · intro w' hS
    obtain ⟨s0, s1, s2, s3⟩ := hS
    skip
    go_simp
    try rfl
  intro K hK
  go_simp
  refine hK _ ?_
  clear hK K
  apply wpSeq_takeK _ (by first | rfl | (simp [Region.wanted, yielded]; done))
  · intro w' hS
    obtain ⟨s0, s1, s2, s3⟩ := hS
    skip
    go_simp
    try rfl
  intro K hK
  go_simp
  refine hK _ ?_
  clear hK K
  apply wpSeq_takeK _ (by first | rfl | (simp [Region.wanted, yielded]; done))
  · intro w' hS
    obtain ⟨s0, s1, s2, s3⟩ := hS
    skip
    go_simp
    try rfl
  intro K hK
  go_simp
  refine hK _ ?_
  clear hK K
  apply wpSeq_takeK _ (by first | rfl | (simp [Region.wanted, yielded]; done))
  · intro w' hS
    obtain ⟨s0, s1, s2, s3⟩ := hS
    skip
    go_simp
    try rfl
  intro K hK
  go_simp
  refine hK _ ?_
  clear hK K
  apply wpSeq_takeK _ (by first | rfl | (simp [Region.wanted, yielded]; done))
  · intro w' hS
    obtain ⟨s0, s1, s2, s3⟩ := hS
    skip
    go_simp
    try rfl
  intro K hK
  go_simp
  refine hK _ ?_
  clear hK K
  apply wpSeq_takeK _ (by first | rfl | (simp [Region.wanted, yielded]; done))
  · intro w' hS
    obtain ⟨s0, s1, s2, s3⟩ := hS
    skip
    go_simp
    try rfl
  intro K hK
  go_simp
  refine hK _ ?_
  clear hK K
  refine wpSeq_alone ?_
  go_wp2
  refine QS_normal ⟨by first | go_keep | exact (heap_alloc_lt hlw).trans hbw | exact (heap_alloc_lt (by simp; omega)).trans ((heap_alloc_lt hlw).trans hbw), by first | go_keep | exact (heap_alloc_lt hlw).trans hbw | exact (heap_alloc_lt (by simp; omega)).trans ((heap_alloc_lt hlw).trans hbw), by first | go_keep | exact (heap_alloc_lt hlw).trans hbw | exact (heap_alloc_lt (by simp; omega)).trans ((heap_alloc_lt hlw).trans hbw), by first | go_keep | exact (heap_alloc_lt hlw).trans hbw | exact (heap_alloc_lt (by simp; omega)).trans ((heap_alloc_lt hlw).trans hbw)⟩ (fun _ => ?_)
  refine wpSeq_alone ?_
  go_wp2
  refine QS_normal ⟨by first | go_keep | exact (heap_alloc_lt hlw).trans hbw | exact (heap_alloc_lt (by simp; omega)).trans ((heap_alloc_lt hlw).trans hbw), by first | go_keep | exact (heap_alloc_lt hlw).trans hbw | exact (heap_alloc_lt (by simp; omega)).trans ((heap_alloc_lt hlw).trans hbw), by first | go_keep | exact (heap_alloc_lt hlw).trans hbw | exact (heap_alloc_lt (by simp; omega)).trans ((heap_alloc_lt hlw).trans hbw), by first | go_keep | exact (heap_alloc_lt hlw).trans hbw | exact (heap_alloc_lt (by simp; omega)).trans ((heap_alloc_lt hlw).trans hbw)⟩ (fun _ => ?_)
  apply wpSeq_takeK _ (by first | rfl | (simp [Region.wanted, yielded]; done))
  · intro w' hS
    obtain ⟨s0, s1, s2, s3⟩ := hS
    skip
    go_simp
    try rfl
  intro K hK
  go_simp
  refine hK _ ?_
  clear hK K
  refine wpSeq_end ?_
  have hN2 := hN _ (show ((w.alloc (Obj.cells #[Value.int IntKind.u8 k.kind, Value.string k.name] 28)).alloc (Obj.cells #[Value.int IntKind.i64 0, Value.int IntKind.u64 0] 66)).drew.heap[L.bw]? = _ from (heap_alloc_lt (by simp; omega)).trans ((heap_alloc_lt hlw).trans hbw))
  clear hL hN
  go_wp2_with fail
  all_goals (try (exfalso; omega))
  have s0 : (w.setCell ⟨L.bq, 2, none⟩ (.int .i64 (q.next + 1))).heap.size = w.heap.size := by simp
  have s1 : ((w.setCell ⟨L.bq, 2, none⟩ (.int .i64 (q.next + 1))).alloc (.cells #[.int .u8 k.kind, .string k.name] 28)).heap.size = w.heap.size + 1 := by simp
  have hQ : QAt ((((w.setCell ⟨L.bq, 2, none⟩ (.int .i64 (q.next + 1))).alloc (.cells #[.int .u8 k.kind, .string k.name] 28)).alloc (.cells #[.int .i64 (q.next + 1), .int .u64 0] 66)).drew) L { waits := q.waits, fails := q.fails, next := q.next + 1 } := by
    refine ⟨?_, ⟨es, c, ?_, hr⟩, ⟨ef, cf, ?_, hrf⟩, hne⟩
    · exact (heap_alloc_lt (by rw [s1]; omega)).trans ((heap_alloc_lt (by rw [s0]; omega)).trans (heap_setCell_same hd))
    · exact (heap_alloc_lt (by rw [s1]; omega)).trans ((heap_alloc_lt (by rw [s0]; omega)).trans ((heap_setCell_ne a1.symm).trans hbw))
    · exact (heap_alloc_lt (by rw [s1]; omega)).trans ((heap_alloc_lt (by rw [s0]; omega)).trans ((heap_setCell_ne a2.symm).trans hbf))
  have hK : Keeps L.mine w ((((w.setCell ⟨L.bq, 2, none⟩ (.int .i64 (q.next + 1))).alloc (.cells #[.int .u8 k.kind, .string k.name] 28)).alloc (.cells #[.int .i64 (q.next + 1), .int .u64 0] 66)).drew) := (((((Keeps.refl _ _).setCell (fun _ => .inl rfl) _).alloc _).alloc _).drew)
  have hB1 : ((((w.setCell ⟨L.bq, 2, none⟩ (.int .i64 (q.next + 1))).alloc (.cells #[.int .u8 k.kind, .string k.name] 28)).alloc (.cells #[.int .i64 (q.next + 1), .int .u64 0] 66)).drew).heap[w.heap.size]? = some (.cells #[.int .u8 k.kind, .string k.name] 28) := (heap_alloc_lt (by rw [s1]; omega)).trans (by rw [← s0]; exact heap_alloc_eq)
  have hB2 : ((((w.setCell ⟨L.bq, 2, none⟩ (.int .i64 (q.next + 1))).alloc (.cells #[.int .u8 k.kind, .string k.name] 28)).alloc (.cells #[.int .i64 (q.next + 1), .int .u64 0] 66)).drew).heap[w.heap.size + 1]? = some (.cells #[.int .i64 (q.next + 1), .int .u64 0] 66) := by rw [← s1]; exact heap_alloc_eq
  have hsz : ((((w.setCell ⟨L.bq, 2, none⟩ (.int .i64 (q.next + 1))).alloc (.cells #[.int .u8 k.kind, .string k.name] 28)).alloc (.cells #[.int .i64 (q.next + 1), .int .u64 0] 66)).drew).heap.size = w.heap.size + 2 := by simp
  clear hN2 c0 c1 c2 f0 f1 f2 s0 s1
  refine (hdue _ _ hQ rfl hK).mono ?_
  clear hQ
  generalize (((w.setCell ⟨L.bq, 2, none⟩ (.int .i64 (q.next + 1))).alloc (.cells #[.int .u8 k.kind, .string k.name] 28)).alloc (.cells #[.int .i64 (q.next + 1), .int .u64 0] 66)).drew = W at *
  rintro e w2 ⟨rfl, hq2, hk2⟩
  have hB1' := (hk2.block _ (heap_lt hB1) (by omega)).trans hB1
  have hB2' := (hk2.block _ (heap_lt hB2) (by omega)).trans hB2
  have hs2 := hk2.size
  have HK := Lib.hid (hK.step hk2 (fun i _ h1 h2 => h1 (.inr (.inr h2))))
  clear hK hk2 hB1 hB2 hdue hd hbw hbf hr hrf
  obtain ⟨hd2, ⟨es2, c2, hbw2, hr2⟩, hff2, _⟩ := hq2
  obtain ⟨d0, g0⟩ := cells_of_block hd2 0 (.map (some L.bw)) rfl
  obtain ⟨k0, j0⟩ := cells_of_block hB1' 0 (.int .u8 k.kind) rfl
  obtain ⟨k1, j1⟩ := cells_of_block hB1' 1 (.string k.name) rfl
  obtain ⟨v0, u0⟩ := cells_of_block hB2' 0 (.int .i64 (q.next + 1)) rfl
  obtain ⟨v1, u1⟩ := cells_of_block hB2' 1 (.int .u64 0) rfl
  obtain ⟨es3, c3, hr3, hup⟩ := run_mapUpdate keyOK Try.underlying59 hr2 k (q.next + 1, d)
  have HR := Lib.hid hr3
  clear hr3 hr2
  have hup2 := hup L.bw (w2.setCell ⟨w.heap.size + 1, 1, none⟩ (.int .u64 d)).drew ((heap_setCell_ne (show L.bw ≠ w.heap.size + 1 by omega)).trans hbw2)
  clear hup
  go_wp2_with fail
  refine wp_region_T 6 (by kernel_rfl) (by kernel_rfl) ?_
  simp only [List.take_succ_cons, List.take_zero, List.drop_succ_cons, List.drop_zero]
  refine wpStill_step (fun K hK => ?_)
  go_simp
  refine hK _ ?_
  clear hK K
  refine wpStill_step (fun K hK => ?_)
  go_simp
  refine hK _ ?_
  clear hK K
  refine wpStill_step (fun K hK => ?_)
  go_simp
  refine hK _ ?_
  clear hK K
  refine wpStill_step (fun K hK => ?_)
  go_simp
  refine hK _ ?_
  clear hK K
  refine wpStill_step (fun K hK => ?_)
  go_simp
  refine hK _ ?_
  clear hK K
  refine wpStill_step (fun K hK => ?_)
  go_simp
  refine hK _ ?_
  clear hK K
  refine wpStill_nil ?_
  go_wp2
  go_ret
  have hs3 : (w2.setCell ⟨w.heap.size + 1, 1, none⟩ (.int .u64 d)).heap.size = w2.heap.size := by simp
  refine ⟨rfl, ?_, ?_⟩
  · unfold WQ.put
    rw [hn]
    obtain ⟨ef2, cf2, hbf2, hrf2⟩ := hff2
    refine ⟨?_, ⟨es3, c3, Wset_same ?_, HR.out⟩, ⟨ef2, cf2, ?_, hrf2⟩, hne⟩
    · exact (Wset_ne a1).trans ((heap_setCell_ne (show L.bq ≠ w.heap.size + 1 by omega)).trans hd2)
    · show L.bw < (w2.setCell ⟨w.heap.size + 1, 1, none⟩ (.int .u64 d)).heap.size; omega
    · exact (Wset_ne hne.symm).trans ((heap_setCell_ne (show L.bf ≠ w.heap.size + 1 by omega)).trans hbf2)
  · exact (((HK.out).setCell (fun h => absurd h (by simp)) _).drew).wset (fun _ => .inr (.inl rfl)) _
set_option maxRecDepth 100000 in
set_option maxHeartbeats 1000000 in
theorem put_old (L : QLoc) (q : WQ) (k : GKey) (p : Int × Int) (fd : Nat) (caps : Array Value) (d : Int) (f' : List (GKey × Int)) (w : World) (h : QAt w L q) (hn : assoc q.waits k = some p)
    (hdue : DueDoes L w q.fails fd caps d f') (hcf : ∀ w, (callFunc fd caps).run Try.prog w = .ok (.enter fd caps) w) :
    Calls Try.prog 29 #[.pointer (some ⟨L.bq, 0, none⟩), .agg #[.int .u8 k.kind, .string k.name], .func (.func fd) #[] caps] w fun e w' => e = .returned (.int .i64 0) ∧ QAt w' L (q.put k d f') ∧ Keeps L.mine w w' := by
  have hap := h.apart
  obtain ⟨hd, ⟨es, c, hbw, hr⟩, ⟨ef, cf, hbf, hrf⟩, hne⟩ := h
  obtain ⟨c0, f0⟩ := cells_of_block hd 0 (.map (some L.bw)) rfl
  obtain ⟨c1, f1⟩ := cells_of_block hd 1 (.map (some L.bf)) rfl
  obtain ⟨c2, f2⟩ := cells_of_block hd 2 (.int .i64 q.next) rfl
  have hL : ∀ x : World, x.heap[L.bw]? = some (.map es c) → (Instr.lookup 59 (.map (some L.bw)) (.agg #[.int .u8 k.kind, .string k.name]) true).run Try.prog x = .ok (.tuple #[.agg #[.int .i64 p.1, .int .u64 p.2], .bool true]) x := by
    intro x hx
    have := run_lookup_ok keyOK Try.underlying59 (0, 0) zero66 hr k x hx
    rw [hn] at this; exact this
  have hlw := heap_lt hbw
  have hbq := heap_lt hd
  have hblf := heap_lt hbf
  obtain ⟨a1, a2⟩ := hap
  go_enter Try.func29, Try.ntmps29
  go_wp2
  refine wp_region_N (fun w' => (w'.cell? ⟨L.bq, 0, none⟩ = some (.map (some L.bw))) ∧ (w'.cell? ⟨w.heap.size, 0, none⟩ = some (.int .u8 k.kind)) ∧ (w'.cell? ⟨w.heap.size, 1, none⟩ = some (.string k.name)) ∧ (w'.heap[L.bw]? = some (.map es c)))
    [(true, 0), (true, 1), (true, 2), (true, 3), (true, 4), (true, 5), (true, 6), (true, 7), (true, 8), (false, 9), (false, 10), (true, 11)] (by kernel_rfl) (by kernel_rfl) rfl (by kernel_rfl) ?_ ?_
  · exact ⟨by first | go_keep | exact (heap_alloc_lt hlw).trans hbw | exact (heap_alloc_lt (by simp; omega)).trans ((heap_alloc_lt hlw).trans hbw), by first | go_keep | exact (heap_alloc_lt hlw).trans hbw | exact (heap_alloc_lt (by simp; omega)).trans ((heap_alloc_lt hlw).trans hbw), by first | go_keep | exact (heap_alloc_lt hlw).trans hbw | exact (heap_alloc_lt (by simp; omega)).trans ((heap_alloc_lt hlw).trans hbw), by first | go_keep | exact (heap_alloc_lt hlw).trans hbw | exact (heap_alloc_lt (by simp; omega)).trans ((heap_alloc_lt hlw).trans hbw)⟩
  simp only [List.filterMap_cons, List.filterMap_nil, List.getElem?_cons_succ, List.getElem?_cons_zero, Option.map_some]
  apply wpSeq_takeK _ (by first | rfl | (simp [Region.wanted, yielded]; done))
  · intro w' hS
    obtain ⟨s0, s1, s2, s3⟩ := hS
    skip
    go_simp
    try rfl
  intro K hK
  go_simp
  refine hK _ ?_
  clear hK K
  apply wpSeq_takeK _ (by first | rfl | (simp [Region.wanted, yielded]; done))
  · intro w' hS
    obtain ⟨s0, s1, s2, s3⟩ := hS
    skip
    go_simp
    try rfl
  intro K hK
  go_simp
  refine hK _ ?_
  clear hK K
  apply wpSeq_takeK _ (by first | rfl | (simp [Region.wanted, yielded]; done))
  · intro w' hS
    obtain ⟨s0, s1, s2, s3⟩ := hS
    skip
    go_simp
    try rfl
  intro K hK
  go_simp
  refine hK _ ?_
  clear hK K
  apply wpSeq_takeK _ (by first | rfl | (simp [Region.wanted, yielded]; done))
  · intro w' hS
    obtain ⟨s0, s1, s2, s3⟩ := hS
    skip
    go_simp
    try rfl
  intro K hK
  go_simp
  refine hK _ ?_
  clear hK K
  apply wpSeq_takeK _ (by first | rfl | (simp [Region.wanted, yielded]; done))
  · intro w' hS
    obtain ⟨s0, s1, s2, s3⟩ := hS
    skip
    go_simp
    try rfl
  intro K hK
  go_simp
  refine hK _ ?_
  clear hK K
  apply wpSeq_takeK _ (by first | rfl | (simp [Region.wanted, yielded]; done))
  · intro w' hS
    obtain ⟨s0, s1, s2, s3⟩ := hS
    skip
    go_simp
    try rfl
  intro K hK
  go_simp
  refine hK _ ?_
  clear hK K
  apply wpSeq_takeK _ (by first | rfl | (simp [Region.wanted, yielded]; done))
  · intro w' hS
    obtain ⟨s0, s1, s2, s3⟩ := hS
    skip
    go_simp
    try rfl
  intro K hK
  go_simp
  refine hK _ ?_
  clear hK K
  apply wpSeq_takeK _ (by first | rfl | (simp [Region.wanted, yielded]; done))
  · intro w' hS
    obtain ⟨s0, s1, s2, s3⟩ := hS
    skip
    go_simp
    try rfl
  intro K hK
  go_simp
  refine hK _ ?_
  clear hK K
  apply wpSeq_takeK _ (by first | rfl | (simp [Region.wanted, yielded]; done))
  · intro w' hS
    obtain ⟨s0, s1, s2, s3⟩ := hS
    skip
    go_simp
    try rfl
  intro K hK
  go_simp
  refine hK _ ?_
  clear hK K
  refine wpSeq_alone ?_
  go_wp2
  refine QS_normal ⟨by first | go_keep | exact (heap_alloc_lt hlw).trans hbw | exact (heap_alloc_lt (by simp; omega)).trans ((heap_alloc_lt hlw).trans hbw), by first | go_keep | exact (heap_alloc_lt hlw).trans hbw | exact (heap_alloc_lt (by simp; omega)).trans ((heap_alloc_lt hlw).trans hbw), by first | go_keep | exact (heap_alloc_lt hlw).trans hbw | exact (heap_alloc_lt (by simp; omega)).trans ((heap_alloc_lt hlw).trans hbw), by first | go_keep | exact (heap_alloc_lt hlw).trans hbw | exact (heap_alloc_lt (by simp; omega)).trans ((heap_alloc_lt hlw).trans hbw)⟩ (fun _ => ?_)
  refine wpSeq_alone ?_
  go_wp2
  refine QS_normal ⟨by first | go_keep | exact (heap_alloc_lt hlw).trans hbw | exact (heap_alloc_lt (by simp; omega)).trans ((heap_alloc_lt hlw).trans hbw), by first | go_keep | exact (heap_alloc_lt hlw).trans hbw | exact (heap_alloc_lt (by simp; omega)).trans ((heap_alloc_lt hlw).trans hbw), by first | go_keep | exact (heap_alloc_lt hlw).trans hbw | exact (heap_alloc_lt (by simp; omega)).trans ((heap_alloc_lt hlw).trans hbw), by first | go_keep | exact (heap_alloc_lt hlw).trans hbw | exact (heap_alloc_lt (by simp; omega)).trans ((heap_alloc_lt hlw).trans hbw)⟩ (fun _ => ?_)
  apply wpSeq_takeK _ (by first | rfl | (simp [Region.wanted, yielded]; done))
  · intro w' hS
    obtain ⟨s0, s1, s2, s3⟩ := hS
    skip
    go_simp
    try rfl
  intro K hK
  go_simp
  refine hK _ ?_
  clear hK K
  refine wpSeq_end ?_
  clear hL
  go_wp2_with fail
  have s1 : (w.alloc (.cells #[.int .u8 k.kind, .string k.name] 28)).heap.size = w.heap.size + 1 := by simp
  have hQ : QAt (((w.alloc (.cells #[.int .u8 k.kind, .string k.name] 28)).alloc (.cells #[.int .i64 p.1, .int .u64 p.2] 66)).drew) L q := by
    refine ⟨?_, ⟨es, c, ?_, hr⟩, ⟨ef, cf, ?_, hrf⟩, hne⟩
    · exact (heap_alloc_lt (by rw [s1]; omega)).trans ((heap_alloc_lt hbq).trans hd)
    · exact (heap_alloc_lt (by rw [s1]; omega)).trans ((heap_alloc_lt hlw).trans hbw)
    · exact (heap_alloc_lt (by rw [s1]; omega)).trans ((heap_alloc_lt hblf).trans hbf)
  have hK : Keeps L.mine w (((w.alloc (.cells #[.int .u8 k.kind, .string k.name] 28)).alloc (.cells #[.int .i64 p.1, .int .u64 p.2] 66)).drew) := ((((Keeps.refl _ _).alloc _).alloc _).drew)
  have hB1 : (((w.alloc (.cells #[.int .u8 k.kind, .string k.name] 28)).alloc (.cells #[.int .i64 p.1, .int .u64 p.2] 66)).drew).heap[w.heap.size]? = some (.cells #[.int .u8 k.kind, .string k.name] 28) := (heap_alloc_lt (by rw [s1]; omega)).trans heap_alloc_eq
  have hB2 : (((w.alloc (.cells #[.int .u8 k.kind, .string k.name] 28)).alloc (.cells #[.int .i64 p.1, .int .u64 p.2] 66)).drew).heap[w.heap.size + 1]? = some (.cells #[.int .i64 p.1, .int .u64 p.2] 66) := by rw [← s1]; exact heap_alloc_eq
  have hsz : (((w.alloc (.cells #[.int .u8 k.kind, .string k.name] 28)).alloc (.cells #[.int .i64 p.1, .int .u64 p.2] 66)).drew).heap.size = w.heap.size + 2 := by simp
  clear c0 c1 c2 f0 f1 f2 s1
  refine (hdue _ _ hQ rfl hK).mono ?_
  clear hQ
  generalize ((w.alloc (.cells #[.int .u8 k.kind, .string k.name] 28)).alloc (.cells #[.int .i64 p.1, .int .u64 p.2] 66)).drew = W at *
  rintro e w2 ⟨rfl, hq2, hk2⟩
  have hB1' := (hk2.block _ (heap_lt hB1) (by omega)).trans hB1
  have hB2' := (hk2.block _ (heap_lt hB2) (by omega)).trans hB2
  have hs2 := hk2.size
  have HK := Lib.hid (hK.step hk2 (fun i _ h1 h2 => h1 (.inr (.inr h2))))
  clear hK hk2 hB1 hB2 hdue hd hbw hbf hr hrf
  obtain ⟨hd2, ⟨es2, c2, hbw2, hr2⟩, hff2, _⟩ := hq2
  obtain ⟨d0, g0⟩ := cells_of_block hd2 0 (.map (some L.bw)) rfl
  obtain ⟨k0, j0⟩ := cells_of_block hB1' 0 (.int .u8 k.kind) rfl
  obtain ⟨k1, j1⟩ := cells_of_block hB1' 1 (.string k.name) rfl
  obtain ⟨v0, u0⟩ := cells_of_block hB2' 0 (.int .i64 p.1) rfl
  obtain ⟨v1, u1⟩ := cells_of_block hB2' 1 (.int .u64 p.2) rfl
  obtain ⟨es3, c3, hr3, hup⟩ := run_mapUpdate keyOK Try.underlying59 hr2 k (p.1, d)
  have HR := Lib.hid hr3
  clear hr3 hr2
  have hup2 := hup L.bw (w2.setCell ⟨w.heap.size + 1, 1, none⟩ (.int .u64 d)).drew ((heap_setCell_ne (show L.bw ≠ w.heap.size + 1 by omega)).trans hbw2)
  clear hup
  go_wp2_with fail
  refine wp_region_T 6 (by kernel_rfl) (by kernel_rfl) ?_
  simp only [List.take_succ_cons, List.take_zero, List.drop_succ_cons, List.drop_zero]
  refine wpStill_step (fun K hK => ?_)
  go_simp
  refine hK _ ?_
  clear hK K
  refine wpStill_step (fun K hK => ?_)
  go_simp
  refine hK _ ?_
  clear hK K
  refine wpStill_step (fun K hK => ?_)
  go_simp
  refine hK _ ?_
  clear hK K
  refine wpStill_step (fun K hK => ?_)
  go_simp
  refine hK _ ?_
  clear hK K
  refine wpStill_step (fun K hK => ?_)
  go_simp
  refine hK _ ?_
  clear hK K
  refine wpStill_step (fun K hK => ?_)
  go_simp
  refine hK _ ?_
  clear hK K
  refine wpStill_nil ?_
  go_wp2
  go_ret
  have hs3 : (w2.setCell ⟨w.heap.size + 1, 1, none⟩ (.int .u64 d)).heap.size = w2.heap.size := by simp
  refine ⟨rfl, ?_, ?_⟩
  · unfold WQ.put
    rw [hn]
    obtain ⟨ef2, cf2, hbf2, hrf2⟩ := hff2
    refine ⟨?_, ⟨es3, c3, Wset_same ?_, HR.out⟩, ⟨ef2, cf2, ?_, hrf2⟩, hne⟩
    · exact (Wset_ne a1).trans ((heap_setCell_ne (show L.bq ≠ w.heap.size + 1 by omega)).trans hd2)
    · show L.bw < (w2.setCell ⟨w.heap.size + 1, 1, none⟩ (.int .u64 d)).heap.size; omega
    · exact (Wset_ne hne.symm).trans ((heap_setCell_ne (show L.bf ≠ w.heap.size + 1 by omega)).trans hbf2)
  · exact (((HK.out).setCell (fun h => absurd h (by simp)) _).drew).wset (fun _ => .inr (.inl rfl)) _

def delayB (n : Int) : Int := if n ≤ 0 then 0 else 2 ^ (min (n - 1) 6).toNat

theorem ret_int {k : IntKind} {a b : Int} (h : a = b) : Ending.returned (.int k a) = .returned (.int k b) := by rw [h]

theorem delay_small (n : Int) (h : 0 < n) (h2 : n - 1 ≤ 6) : IntKind.u64.wrap (2 ^ (n.toNat - 1)) = delayB n := by
  obtain ⟨m, rfl⟩ : ∃ m : Nat, n = m + 1 := ⟨(n - 1).toNat, by omega⟩
  have hm : m ≤ 6 := by omega
  unfold delayB
  rw [if_neg (by omega)]
  have e : (min ((m : Int) + 1 - 1) 6).toNat = m := by omega
  rw [e, show ((m : Int) + 1).toNat - 1 = m by omega]
  have : ∀ j : Fin 7, IntKind.u64.wrap (2 ^ (j : Nat)) = 2 ^ (j : Nat) := by decide
  exact this ⟨m, by omega⟩

theorem delay_big (n : Int) (h : 0 < n) (h2 : 6 < n - 1) : IntKind.u64.wrap 64 = delayB n := by
  unfold delayB
  rw [if_neg (by omega), show (min (n - 1) 6).toNat = 6 by omega]
  decide

theorem delay_any (n : Int) (w : World) (h1 : -9223372036854775808 ≤ n) (h2 : n ≤ 9223372036854775807) :
    Calls Try.prog 12 #[.int .i64 n] w fun e w' => e = .returned (.int .u64 (delayB n)) ∧ w' = w := by
  by_cases h : n ≤ 0
  · go_enter Try.func12, Try.ntmps12
    go_wp2
    go_ret
    exact ⟨by simp [delayB, h], rfl⟩
  · have h' : 0 < n := by omega
    go_enter Try.func12, Try.ntmps12
    go_wp2
    · go_ret
      exact ⟨ret_int (delay_big n h' (by assumption)), rfl⟩
    · go_ret
      exact ⟨ret_int (delay_small n h' (by assumption)), rfl⟩

/-- an empty queue -/
theorem new_any (w : World) : Calls Try.prog 13 #[] w fun e w' => ∃ L : QLoc, e = .returned (.pointer (some ⟨L.bq, 0, none⟩)) ∧ QAt w' L ⟨[], [], 0⟩ ∧ Below w.heap.size w w' ∧ w.heap.size ≤ L.bq ∧ w.heap.size ≤ L.bw ∧ w.heap.size ≤ L.bf := by
  have hmm := @run_makeMap Try.prog
  go_enter Try.func13, Try.ntmps13
  go_wp2
  go_ret
  refine ⟨⟨w.heap.size + 1 + 1, w.heap.size, w.heap.size + 1⟩, rfl, ⟨?_, ⟨#[], 0, ?_, MapRep.nil _⟩, ⟨#[], 0, ?_, MapRep.nil _⟩, by simp⟩, ?_, by simp; omega, by simp, by simp⟩
  · have : ((w.alloc (Obj.map #[] 0)).alloc (Obj.map #[] 0)).heap.size = w.heap.size + 1 + 1 := by simp
    rw [← this]; exact heap_alloc_eq
  · exact (heap_alloc_lt (by simp; omega)).trans ((heap_alloc_lt (by simp)).trans heap_alloc_eq)
  · refine (heap_alloc_lt (by simp)).trans ?_
    have : (w.alloc (Obj.map #[] 0)).heap.size = w.heap.size + 1 := by simp
    rw [← this]; exact heap_alloc_eq
  · exact (((Below.refl _ _).alloc (by simp) _).alloc (by simp) _).alloc (by simp; omega) _

theorem add1_any (w : World) (L : QLoc) (f : List (GKey × Int)) : DueDoes L w f 30 #[] 0 f := by
  intro w1 q1 h1 h2 h3
  go_enter Try.func30, Try.ntmps30
  go_wp2
  go_ret
  exact ⟨rfl, by subst h2; exact h1, Keeps.refl _ _⟩

theorem cf30 (w : World) : (callFunc 30 #[]).run Try.prog w = .ok (.enter 30 #[]) w := by
  go_simp

end Go.Proofs.Ytemeedfldapcjaa
