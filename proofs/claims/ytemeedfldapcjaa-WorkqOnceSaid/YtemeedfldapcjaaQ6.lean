/- A part of the walks: contracts of functions. -/
import Derived.Test.YtemeedfldapcjaaQ5
import Derived.RegionTactic
import Derived.Deep.CutBlock
namespace Go.Proofs.Ytemeedfldapcjaa
open Go.RowKit
set_option linter.unusedVariables false
set_option linter.unusedSimpArgs false
theorem RS.alloc2 {w wr : World} {L : QLoc} {es : Array MapEntry} {clock : Nat} {k : GKey} {s d : Int} {seen : Array Nat} (h : RS w wr L es clock k s d seen) (o o' : Obj) : RS w ((wr.alloc o).alloc o') L es clock k s d seen := by
  have hsz := h.sz
  have hlt := h.lt
  have e1 : (wr.alloc o).heap.size = wr.heap.size + 1 := by simp
  have f : ∀ c, c < wr.heap.size → ((wr.alloc o).alloc o').heap[c]? = wr.heap[c]? := fun c hc => (heap_alloc_lt (by omega)).trans (heap_alloc_lt hc)
  exact ⟨(f _ (by omega)).trans h.a0, (f _ (by omega)).trans h.a1, (f _ (by omega)).trans h.a2, (f _ (by omega)).trans h.am, hlt, (h.b.alloc (by omega) _).alloc (by omega) _, by simp; omega⟩
theorem RS.draw {w wr : World} {L : QLoc} {es : Array MapEntry} {clock : Nat} {k : GKey} {s d : Int} {seen : Array Nat} (h : RS w wr L es clock k s d seen) : RS w wr.drew L es clock k s d seen :=
  ⟨h.a0, h.a1, h.a2, h.am, h.lt, h.b.drew, h.sz⟩
theorem RS.put {w wr : World} {L : QLoc} {es : Array MapEntry} {clock : Nat} {k : GKey} {s d : Int} {seen : Array Nat} (h : RS w wr L es clock k s d seen) (k' : GKey) (s' d' : Int) :
    RS w ((((wr.setCell ⟨w.heap.size, 0, none⟩ (.int .u8 k'.kind)).setCell ⟨w.heap.size, 1, none⟩ (.string k'.name)).setCell ⟨w.heap.size + 1, 0, none⟩ (.int .i64 s')).setCell ⟨w.heap.size + 1, 1, none⟩ (.int .u64 d')) L es clock k' s' d' seen := by
  have hsz := h.sz
  have hlt := h.lt
  have g0 := heap_setCell_same (o := 0) (v := .int .u8 k'.kind) h.a0
  have g1 := heap_setCell_same (o := 1) (v := .string k'.name) g0
  have g2 := (heap_setCell_ne (w := wr.setCell ⟨w.heap.size, 0, none⟩ (.int .u8 k'.kind)) (a := ⟨w.heap.size, 1, none⟩) (v := .string k'.name) (b := w.heap.size + 1) (by simp)).trans ((heap_setCell_ne (by simp)).trans h.a1)
  have g3 := heap_setCell_same (o := 0) (v := .int .i64 s') g2
  have g4 := heap_setCell_same (o := 1) (v := .int .u64 d') g3
  refine ⟨?_, ?_, ?_, ?_, hlt, (((h.b.setCell (by simp) _).setCell (by simp) _).setCell (by simp) _).setCell (by simp) _, by simp; omega⟩
  · exact (heap_setCell_ne (by simp)).trans ((heap_setCell_ne (by simp)).trans g1)
  · exact g4
  · exact (heap_setCell_ne (by simp)).trans ((heap_setCell_ne (by simp)).trans ((heap_setCell_ne (by simp)).trans ((heap_setCell_ne (by simp)).trans h.a2)))
  · exact (heap_setCell_ne (by simp; omega)).trans ((heap_setCell_ne (by simp; omega)).trans ((heap_setCell_ne (by simp; omega)).trans ((heap_setCell_ne (by simp; omega)).trans h.am)))

theorem RS.cells {w wr : World} {L : QLoc} {es : Array MapEntry} {clock : Nat} {k : GKey} {s d : Int} {seen : Array Nat} (h : RS w wr L es clock k s d seen) :
    wr.cell? ⟨w.heap.size, 0, none⟩ = some (.int .u8 k.kind) ∧ wr.cell? ⟨w.heap.size, 1, none⟩ = some (.string k.name) ∧ wr.cell? ⟨w.heap.size + 1, 0, none⟩ = some (.int .i64 s) ∧ wr.cell? ⟨w.heap.size + 1, 1, none⟩ = some (.int .u64 d) ∧
    wr.frozen? ⟨w.heap.size, 0, none⟩ = false ∧ wr.frozen? ⟨w.heap.size, 1, none⟩ = false ∧ wr.frozen? ⟨w.heap.size + 1, 0, none⟩ = false ∧ wr.frozen? ⟨w.heap.size + 1, 1, none⟩ = false :=
  ⟨(cells_of_block h.a0 0 _ rfl).1, (cells_of_block h.a0 1 _ rfl).1, (cells_of_block h.a1 0 _ rfl).1, (cells_of_block h.a1 1 _ rfl).1, (cells_of_block h.a0 0 _ rfl).2, (cells_of_block h.a0 1 _ rfl).2, (cells_of_block h.a1 0 _ rfl).2, (cells_of_block h.a1 1 _ rfl).2⟩

theorem iterSeen_of {w : World} {r : Nat} {a : Option Nat} {b : Nat} {s : Array Nat} {c : Nat} (h : w.heap[r]? = some (.mapIter a b s c)) : w.iterSeen r = s := by simp [World.iterSeen, h]

set_option maxRecDepth 100000 in
set_option maxHeartbeats 4000000 in
theorem first_any (L : QLoc) (q : WQ) (w : World) (h : QAt w L q) (hs : Since q.waits) :
    Calls Try.prog 35 #[.pointer (some ⟨L.bq, 0, none⟩)] w fun e w' => e = .returned (firstV q.waits) ∧ Below w.heap.size w w' := by
  obtain ⟨hd, ⟨es, clock, hbw, hr⟩, _, _⟩ := h
  have hlw := heap_lt hbw
  have hbq := heap_lt hd
  obtain ⟨c0, f0⟩ := cells_of_block hd 0 (.map (some L.bw)) rfl
  have HS := Lib.hid hs
  have HR := Lib.hid hr
  generalize hl : q.waits = l at *
  clear hl
  obtain ⟨w0, hw0⟩ : ∃ w0, w0 = (w.alloc (.cells #[.int .u8 0, .string ⟨#[]⟩] 28)).alloc (.cells #[.int .i64 0, .int .u64 0] 66) := ⟨_, rfl⟩
  have hb0 : w0.heap[L.bw]? = some (.map es clock) := by rw [hw0]; exact (heap_alloc_lt (by simp; omega)).trans ((heap_alloc_lt hlw).trans hbw)
  have hrg := run_range_map (P := Try.prog) w0 59 28 66 L.bw es clock Try.underlying59 hb0
  have hsz0 : w0.heap.size = w.heap.size + 2 := by simp [hw0]
  have hst : RS w (w0.alloc (.mapIter (some L.bw) clock #[] clock)) L es clock ⟨0, ⟨#[]⟩⟩ 0 0 #[] := by
    have e1 : (w.alloc (.cells #[.int .u8 0, .string ⟨#[]⟩] 28)).heap.size = w.heap.size + 1 := by simp
    have hlt0 : L.bw < w0.heap.size := by rw [hsz0]; omega
    refine ⟨?_, ?_, ?_, (heap_alloc_lt hlt0).trans hb0, hlw, Below.alloc (by rw [hw0]; exact ((Below.refl _ _).alloc (Nat.le_refl _) _).alloc (by simp) _) (by rw [hsz0]; omega) _, by simp [hsz0]⟩
    · exact (heap_alloc_lt (by omega)).trans (by rw [hw0]; exact (heap_alloc_lt (by omega)).trans heap_alloc_eq)
    · exact (heap_alloc_lt (by omega)).trans (by rw [hw0, ← e1]; exact heap_alloc_eq)
    · rw [← hsz0]; exact heap_alloc_eq
  rw [hsz0] at hrg
  subst hw0
  have HST := Lib.hid hst
  clear hst hs hr hsz0 hd
  go_enter Try.func35, Try.ntmps35
  go_wp2
  go_step3
  go_wp2
  go_step3
  go_wp2
  go_loopw [4] (fun b wr => ∃ (ok : Bool) (k : GKey) (s d : Int) (seen : Array Nat), b = .bool ok ∧ Hid (RS w wr L es clock k s d seen) ∧ Hid (Found es l seen ok k s d)) (fun _ wr => (leftOf es (wr.iterSeen (w.heap.size + 2))).size)
  case atStart => exact ⟨false, _, _, _, _, rfl, HST, Lib.hid (Found.start es l)⟩
  case round =>
    obtain ⟨ok, k, s, d, seen, rfl, hRS, hF⟩ := hrel
    clear hrg hb0 HST
    obtain ⟨d0, d1, d2, d3, g0, g1, g2, g3⟩ := hRS.out.cells
    rcases hRS.out.next HR.out with ⟨h0, hnx⟩ | ⟨e, he, k', s', d', w1, hv, hm, hS1, hnx, hen⟩
    · have HF := Lib.hid (hF.out.done HR.out HS.out h0)
      have hb := hRS.out.b
      have HB := Lib.hid hb
      have hsz := hRS.out.sz
      clear hb hRS hF
      go_wp2
      refine wp_region_N (fun w' => (w'.cell? ⟨w.heap.size, 0, none⟩ = some (.int .u8 k.kind)) ∧ (w'.cell? ⟨w.heap.size, 1, none⟩ = some (.string k.name)) ∧ (w'.cell? ⟨w.heap.size + 1, 0, none⟩ = some (.int .i64 s)) ∧ (w'.cell? ⟨w.heap.size + 1, 1, none⟩ = some (.int .u64 d)))
        [(true, 0), (true, 1), (true, 2), (false, 3), (false, 4), (true, 5)] (by kernel_rfl) (by kernel_rfl) rfl (by kernel_rfl) ?_ ?_
      · exact ⟨by (simp [*, World.cell?_alloc_some, World.cell?_setCell_far, World.cell?_setCell_same', World.cell?_setCell_other]; done), by (simp [*, World.cell?_alloc_some, World.cell?_setCell_far, World.cell?_setCell_same', World.cell?_setCell_other]; done), by (simp [*, World.cell?_alloc_some, World.cell?_setCell_far, World.cell?_setCell_same', World.cell?_setCell_other]; done), by (simp [*, World.cell?_alloc_some, World.cell?_setCell_far, World.cell?_setCell_same', World.cell?_setCell_other]; done)⟩
      simp only [List.filterMap_cons, List.filterMap_nil, List.getElem?_cons_succ, List.getElem?_cons_zero, Option.map_some]
      apply wpSeq_takeK _ (by first | rfl | (simp [Region.wanted, yielded]; done))
      · intro w' hS
        obtain ⟨s0, s1, s2, s3⟩ := hS
        skip
        go_simp
        try rfl
      intro K hK
      go_simp
      refine hK _ ?_
      clear hK K
      apply wpSeq_takeK _ (by first | rfl | (simp [Region.wanted, yielded]; done))
      · intro w' hS
        obtain ⟨s0, s1, s2, s3⟩ := hS
        skip
        go_simp
        try rfl
      intro K hK
      go_simp
      refine hK _ ?_
      clear hK K
      apply wpSeq_takeK _ (by first | rfl | (simp [Region.wanted, yielded]; done))
      · intro w' hS
        obtain ⟨s0, s1, s2, s3⟩ := hS
        skip
        go_simp
        try rfl
      intro K hK
      go_simp
      refine hK _ ?_
      clear hK K
      refine wpSeq_alone ?_
      go_wp2
      refine QS_normal ⟨by (simp [*, World.cell?_alloc_some, World.cell?_setCell_far, World.cell?_setCell_same', World.cell?_setCell_other]; done), by (simp [*, World.cell?_alloc_some, World.cell?_setCell_far, World.cell?_setCell_same', World.cell?_setCell_other]; done), by (simp [*, World.cell?_alloc_some, World.cell?_setCell_far, World.cell?_setCell_same', World.cell?_setCell_other]; done), by (simp [*, World.cell?_alloc_some, World.cell?_setCell_far, World.cell?_setCell_same', World.cell?_setCell_other]; done)⟩ (fun _ => ?_)
      refine wpSeq_alone ?_
      go_wp2
      refine QS_normal ⟨by (simp [*, World.cell?_alloc_some, World.cell?_setCell_far, World.cell?_setCell_same', World.cell?_setCell_other]; done), by (simp [*, World.cell?_alloc_some, World.cell?_setCell_far, World.cell?_setCell_same', World.cell?_setCell_other]; done), by (simp [*, World.cell?_alloc_some, World.cell?_setCell_far, World.cell?_setCell_same', World.cell?_setCell_other]; done), by (simp [*, World.cell?_alloc_some, World.cell?_setCell_far, World.cell?_setCell_same', World.cell?_setCell_other]; done)⟩ (fun _ => ?_)
      apply wpSeq_takeK _ (by first | rfl | (simp [Region.wanted, yielded]; done))
      · intro w' hS
        obtain ⟨s0, s1, s2, s3⟩ := hS
        skip
        go_simp
        try rfl
      intro K hK
      go_simp
      refine hK _ ?_
      clear hK K
      refine wpSeq_end ?_
      go_wp2
      rw [Exit.noGoto_ret]
      refine bodyPost_ret (v := firstV l) ?_ rfl ⟨rfl, ?_⟩
      · rw [HF.out]
        simp [results, Try.results35, go_sem, d0, d1, d2, d3, World.cell?_setCell_far, World.cell?_setCell_same', World.cell?_setCell_other]
      · exact (((((HB.out.setCell (by simp) _).setCell (by simp) _).setCell (by simp) _).setCell (by simp) _).drew)
    · clear d0 d1 d2 d3 g0 g1 g2 g3
      have hS2 := hS1.alloc2 (.cells #[.int .u8 k'.kind, .string k'.name] 28) (.cells #[.int .i64 s', .int .u64 d'] 66)
      obtain ⟨d0, d1, d2, d3, g0, g1, g2, g3⟩ := hS2.cells
      have HE := Lib.hid he
      have HV := Lib.hid hv
      have HM := Lib.hid hm
      have hsz := hS1.sz
      have HS1 := Lib.hid hS1
      have HS2 := Lib.hid hS2
      have hmeas : (leftOf es (w1.iterSeen (w.heap.size + 2))).size < (leftOf es (wr.iterSeen (w.heap.size + 2))).size := by
        rw [iterSeen_of hS1.a2, iterSeen_of hRS.out.a2]; exact left_shrinks es seen e he
      have HME := Lib.hid hmeas
      clear he hv hm hS1 hS2 hRS hmeas
      by_cases hok : ok = true
      · subst hok
        by_cases hx : d < d'
        · have hx2 : ¬ d' = d := by omega
          go_wp2
          go_roundw
          case rel => exact ⟨true, k, s, d, _, rfl, HS2, Lib.hid (hF.out.stay HR.out (mem_left HE.out).1 HV.out (by unfold ahead; simp only; omega))⟩
          case measure => rw [iterSeen_of HS2.out.a2, ← iterSeen_of HS1.out.a2]; exact HME.out
        by_cases hx2 : d' = d
        · subst hx2
          by_cases hx3 : s < s'
          · go_wp2
            go_roundw
            case rel => exact ⟨true, k, s, d', _, rfl, HS2, Lib.hid (hF.out.stay HR.out (mem_left HE.out).1 HV.out (by unfold ahead; simp only; omega))⟩
            case measure => rw [iterSeen_of HS2.out.a2, ← iterSeen_of HS1.out.a2]; exact HME.out
          · go_wp2
            refine wp_region_N (fun w' => (w'.cell? ⟨w1.heap.size, 0, none⟩ = some (.int .u8 k'.kind)) ∧ (w'.cell? ⟨w1.heap.size, 1, none⟩ = some (.string k'.name)) ∧ (w'.cell? ⟨w1.heap.size + 1, 0, none⟩ = some (.int .i64 s')) ∧ (w'.cell? ⟨w1.heap.size + 1, 1, none⟩ = some (.int .u64 d')))
              [(true, 0), (true, 1), (false, 2), (false, 3), (true, 4)] (by kernel_rfl) (by kernel_rfl) rfl (by kernel_rfl) ?_ ?_
            · exact ⟨by (simp [*, World.cell?_alloc_some, World.cell?_setCell_far, World.cell?_setCell_same', World.cell?_setCell_other]; done), by (simp [*, World.cell?_alloc_some, World.cell?_setCell_far, World.cell?_setCell_same', World.cell?_setCell_other]; done), by (simp [*, World.cell?_alloc_some, World.cell?_setCell_far, World.cell?_setCell_same', World.cell?_setCell_other]; done), by (simp [*, World.cell?_alloc_some, World.cell?_setCell_far, World.cell?_setCell_same', World.cell?_setCell_other]; done)⟩
            simp only [List.filterMap_cons, List.filterMap_nil, List.getElem?_cons_succ, List.getElem?_cons_zero, Option.map_some]
            apply wpSeq_takeK _ (by first | rfl | (simp [Region.wanted, yielded]; done))
            · intro w' hS
              obtain ⟨s0, s1, s2, s3⟩ := hS
              skip
              go_simp
              try rfl
            intro K hK
            go_simp
            refine hK _ ?_
            clear hK K
            apply wpSeq_takeK _ (by first | rfl | (simp [Region.wanted, yielded]; done))
            · intro w' hS
              obtain ⟨s0, s1, s2, s3⟩ := hS
              skip
              go_simp
              try rfl
            intro K hK
            go_simp
            refine hK _ ?_
            clear hK K
            refine wpSeq_alone ?_
            go_wp2
            refine QS_normal ⟨by (simp [*, World.cell?_alloc_some, World.cell?_setCell_far, World.cell?_setCell_same', World.cell?_setCell_other]; done), by (simp [*, World.cell?_alloc_some, World.cell?_setCell_far, World.cell?_setCell_same', World.cell?_setCell_other]; done), by (simp [*, World.cell?_alloc_some, World.cell?_setCell_far, World.cell?_setCell_same', World.cell?_setCell_other]; done), by (simp [*, World.cell?_alloc_some, World.cell?_setCell_far, World.cell?_setCell_same', World.cell?_setCell_other]; done)⟩ (fun _ => ?_)
            refine wpSeq_alone ?_
            go_wp2
            refine QS_normal ⟨by (simp [*, World.cell?_alloc_some, World.cell?_setCell_far, World.cell?_setCell_same', World.cell?_setCell_other]; done), by (simp [*, World.cell?_alloc_some, World.cell?_setCell_far, World.cell?_setCell_same', World.cell?_setCell_other]; done), by (simp [*, World.cell?_alloc_some, World.cell?_setCell_far, World.cell?_setCell_same', World.cell?_setCell_other]; done), by (simp [*, World.cell?_alloc_some, World.cell?_setCell_far, World.cell?_setCell_same', World.cell?_setCell_other]; done)⟩ (fun _ => ?_)
            apply wpSeq_takeK _ (by first | rfl | (simp [Region.wanted, yielded]; done))
            · intro w' hS
              obtain ⟨s0, s1, s2, s3⟩ := hS
              skip
              go_simp
              try rfl
            intro K hK
            go_simp
            refine hK _ ?_
            clear hK K
            refine wpSeq_end ?_
            go_wp2
            go_roundw
            case rel => exact ⟨true, k', s', d', _, rfl, Lib.hid (HS2.out.put k' s' d').draw, Lib.hid (hF.out.turn HR.out (mem_left HE.out).1 HV.out HM.out (by rcases Int.lt_or_eq_of_le hx3 with h | h; exact .inl (.inr ⟨rfl, h⟩); exact .inr ⟨h, rfl⟩))⟩
            case measure => rw [iterSeen_of ((HS2.out.put k' s' d').draw).a2, ← iterSeen_of HS1.out.a2]; exact HME.out
        · go_wp2
          refine wp_region_N (fun w' => (w'.cell? ⟨w1.heap.size, 0, none⟩ = some (.int .u8 k'.kind)) ∧ (w'.cell? ⟨w1.heap.size, 1, none⟩ = some (.string k'.name)) ∧ (w'.cell? ⟨w1.heap.size + 1, 0, none⟩ = some (.int .i64 s')) ∧ (w'.cell? ⟨w1.heap.size + 1, 1, none⟩ = some (.int .u64 d')))
            [(true, 0), (true, 1), (false, 2), (false, 3), (true, 4)] (by kernel_rfl) (by kernel_rfl) rfl (by kernel_rfl) ?_ ?_
          · exact ⟨by (simp [*, World.cell?_alloc_some, World.cell?_setCell_far, World.cell?_setCell_same', World.cell?_setCell_other]; done), by (simp [*, World.cell?_alloc_some, World.cell?_setCell_far, World.cell?_setCell_same', World.cell?_setCell_other]; done), by (simp [*, World.cell?_alloc_some, World.cell?_setCell_far, World.cell?_setCell_same', World.cell?_setCell_other]; done), by (simp [*, World.cell?_alloc_some, World.cell?_setCell_far, World.cell?_setCell_same', World.cell?_setCell_other]; done)⟩
          simp only [List.filterMap_cons, List.filterMap_nil, List.getElem?_cons_succ, List.getElem?_cons_zero, Option.map_some]
          apply wpSeq_takeK _ (by first | rfl | (simp [Region.wanted, yielded]; done))
          · intro w' hS
            obtain ⟨s0, s1, s2, s3⟩ := hS
            skip
            go_simp
            try rfl
          intro K hK
          go_simp
          refine hK _ ?_
          clear hK K
          apply wpSeq_takeK _ (by first | rfl | (simp [Region.wanted, yielded]; done))
          · intro w' hS
            obtain ⟨s0, s1, s2, s3⟩ := hS
            skip
            go_simp
            try rfl
          intro K hK
          go_simp
          refine hK _ ?_
          clear hK K
          refine wpSeq_alone ?_
          go_wp2
          refine QS_normal ⟨by (simp [*, World.cell?_alloc_some, World.cell?_setCell_far, World.cell?_setCell_same', World.cell?_setCell_other]; done), by (simp [*, World.cell?_alloc_some, World.cell?_setCell_far, World.cell?_setCell_same', World.cell?_setCell_other]; done), by (simp [*, World.cell?_alloc_some, World.cell?_setCell_far, World.cell?_setCell_same', World.cell?_setCell_other]; done), by (simp [*, World.cell?_alloc_some, World.cell?_setCell_far, World.cell?_setCell_same', World.cell?_setCell_other]; done)⟩ (fun _ => ?_)
          refine wpSeq_alone ?_
          go_wp2
          refine QS_normal ⟨by (simp [*, World.cell?_alloc_some, World.cell?_setCell_far, World.cell?_setCell_same', World.cell?_setCell_other]; done), by (simp [*, World.cell?_alloc_some, World.cell?_setCell_far, World.cell?_setCell_same', World.cell?_setCell_other]; done), by (simp [*, World.cell?_alloc_some, World.cell?_setCell_far, World.cell?_setCell_same', World.cell?_setCell_other]; done), by (simp [*, World.cell?_alloc_some, World.cell?_setCell_far, World.cell?_setCell_same', World.cell?_setCell_other]; done)⟩ (fun _ => ?_)
          apply wpSeq_takeK _ (by first | rfl | (simp [Region.wanted, yielded]; done))
          · intro w' hS
            obtain ⟨s0, s1, s2, s3⟩ := hS
            skip
            go_simp
            try rfl
          intro K hK
          go_simp
          refine hK _ ?_
          clear hK K
          refine wpSeq_end ?_
          go_wp2
          go_roundw
          case rel => exact ⟨true, k', s', d', _, rfl, Lib.hid (HS2.out.put k' s' d').draw, Lib.hid (hF.out.turn HR.out (mem_left HE.out).1 HV.out HM.out (by unfold ahead; simp only; omega))⟩
          case measure => rw [iterSeen_of ((HS2.out.put k' s' d').draw).a2, ← iterSeen_of HS1.out.a2]; exact HME.out
      · have hok' : ok = false := by simpa using hok
        subst hok'
        go_wp2
        refine wp_region_N (fun w' => (w'.cell? ⟨w1.heap.size, 0, none⟩ = some (.int .u8 k'.kind)) ∧ (w'.cell? ⟨w1.heap.size, 1, none⟩ = some (.string k'.name)) ∧ (w'.cell? ⟨w1.heap.size + 1, 0, none⟩ = some (.int .i64 s')) ∧ (w'.cell? ⟨w1.heap.size + 1, 1, none⟩ = some (.int .u64 d')))
          [(true, 0), (true, 1), (false, 2), (false, 3), (true, 4)] (by kernel_rfl) (by kernel_rfl) rfl (by kernel_rfl) ?_ ?_
        · exact ⟨by (simp [*, World.cell?_alloc_some, World.cell?_setCell_far, World.cell?_setCell_same', World.cell?_setCell_other]; done), by (simp [*, World.cell?_alloc_some, World.cell?_setCell_far, World.cell?_setCell_same', World.cell?_setCell_other]; done), by (simp [*, World.cell?_alloc_some, World.cell?_setCell_far, World.cell?_setCell_same', World.cell?_setCell_other]; done), by (simp [*, World.cell?_alloc_some, World.cell?_setCell_far, World.cell?_setCell_same', World.cell?_setCell_other]; done)⟩
        simp only [List.filterMap_cons, List.filterMap_nil, List.getElem?_cons_succ, List.getElem?_cons_zero, Option.map_some]
        apply wpSeq_takeK _ (by first | rfl | (simp [Region.wanted, yielded]; done))
        · intro w' hS
          obtain ⟨s0, s1, s2, s3⟩ := hS
          skip
          go_simp
          try rfl
        intro K hK
        go_simp
        refine hK _ ?_
        clear hK K
        apply wpSeq_takeK _ (by first | rfl | (simp [Region.wanted, yielded]; done))
        · intro w' hS
          obtain ⟨s0, s1, s2, s3⟩ := hS
          skip
          go_simp
          try rfl
        intro K hK
        go_simp
        refine hK _ ?_
        clear hK K
        refine wpSeq_alone ?_
        go_wp2
        refine QS_normal ⟨by (simp [*, World.cell?_alloc_some, World.cell?_setCell_far, World.cell?_setCell_same', World.cell?_setCell_other]; done), by (simp [*, World.cell?_alloc_some, World.cell?_setCell_far, World.cell?_setCell_same', World.cell?_setCell_other]; done), by (simp [*, World.cell?_alloc_some, World.cell?_setCell_far, World.cell?_setCell_same', World.cell?_setCell_other]; done), by (simp [*, World.cell?_alloc_some, World.cell?_setCell_far, World.cell?_setCell_same', World.cell?_setCell_other]; done)⟩ (fun _ => ?_)
        refine wpSeq_alone ?_
        go_wp2
        refine QS_normal ⟨by (simp [*, World.cell?_alloc_some, World.cell?_setCell_far, World.cell?_setCell_same', World.cell?_setCell_other]; done), by (simp [*, World.cell?_alloc_some, World.cell?_setCell_far, World.cell?_setCell_same', World.cell?_setCell_other]; done), by (simp [*, World.cell?_alloc_some, World.cell?_setCell_far, World.cell?_setCell_same', World.cell?_setCell_other]; done), by (simp [*, World.cell?_alloc_some, World.cell?_setCell_far, World.cell?_setCell_same', World.cell?_setCell_other]; done)⟩ (fun _ => ?_)
        apply wpSeq_takeK _ (by first | rfl | (simp [Region.wanted, yielded]; done))
        · intro w' hS
          obtain ⟨s0, s1, s2, s3⟩ := hS
          skip
          go_simp
          try rfl
        intro K hK
        go_simp
        refine hK _ ?_
        clear hK K
        refine wpSeq_end ?_
        go_wp2
        go_roundw
        case rel => exact ⟨true, k', s', d', _, rfl, Lib.hid (HS2.out.put k' s' d').draw, Lib.hid (hF.out.first HR.out (mem_left HE.out).1 HV.out HM.out)⟩
        case measure => rw [iterSeen_of ((HS2.out.put k' s' d').draw).a2, ← iterSeen_of HS1.out.a2]; exact HME.out
end Go.Proofs.Ytemeedfldapcjaa
