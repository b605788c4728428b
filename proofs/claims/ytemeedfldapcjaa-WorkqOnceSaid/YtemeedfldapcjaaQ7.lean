/- A part of the walks: contracts of functions. -/
import Derived.Test.YtemeedfldapcjaaQ6
namespace Go.Proofs.Ytemeedfldapcjaa
open Go.RowKit
set_option linter.unusedVariables false
set_option linter.unusedSimpArgs false
/-! ### Take, Next, Fork -/
def WQ.drop (q : WQ) (k : GKey) : WQ := { q with waits := assocDel q.waits k }
def takeR (q : WQ) (now : Int) : Option GKey := match bestL q.waits with
  | some p => if p.2.2 ≤ now then some p.1 else none
  | none => none
def WQ.took (q : WQ) (now : Int) : WQ := match takeR q now with
  | some k => q.drop k
  | none => q
def takeV : Option GKey → Value
  | none => .tuple #[.agg #[.int .u8 0, .string ⟨#[]⟩], .bool false]
  | some k => .tuple #[.agg #[.int .u8 k.kind, .string k.name], .bool true]
def nextV (q : WQ) : Value := match bestL q.waits with
  | some p => .tuple #[.int .u64 p.2.2, .bool true]
  | none => .tuple #[.int .u64 0, .bool false]

theorem next_any (L : QLoc) (q : WQ) (w : World) (h : QAt w L q) (hs : Since q.waits) :
    Calls Try.prog 22 #[.pointer (some ⟨L.bq, 0, none⟩)] w fun e w' => e = .returned (nextV q) ∧ Below w.heap.size w w' := by
  have H := first_any L q w h hs
  have e : nextV q = match bestL q.waits with | some p => .tuple #[.int .u64 p.2.2, .bool true] | none => .tuple #[.int .u64 0, .bool false] := rfl
  unfold firstV at H
  rw [e]
  clear e
  cases hb : bestL q.waits with
  | none =>
    rw [hb] at H
    go_enter Try.func22, Try.ntmps22
    go_wp2_with fail
    refine H.mono ?_
    rintro e w1 ⟨rfl, hb⟩
    go_wp2
    go_ret2
    exact ⟨rfl, (hb.alloc (hb.size) _).alloc (by have := hb.size; simp; omega) _⟩
  | some p =>
    rw [hb] at H
    go_enter Try.func22, Try.ntmps22
    go_wp2_with fail
    refine H.mono ?_
    rintro e w1 ⟨rfl, hb⟩
    go_wp2
    go_ret2
    exact ⟨rfl, (hb.alloc (hb.size) _).alloc (by have := hb.size; simp; omega) _⟩

set_option maxRecDepth 100000 in
set_option maxHeartbeats 1000000 in
/-- nothing is taken -/
theorem take_none (L : QLoc) (q : WQ) (now : Int) (w : World) (h : QAt w L q) (hs : Since q.waits) (hn : takeR q now = none) :
    Calls Try.prog 23 #[.pointer (some ⟨L.bq, 0, none⟩), .int .u64 now] w fun e w' => e = .returned (takeV none) ∧ Below w.heap.size w w' := by
  have h' := h.keep ((Keeps.refl (fun _ => False) w).alloc (.cells #[.int .u8 0, .string ⟨#[]⟩] 28)) (by simp) (by simp) (by simp)
  have H := first_any L q _ h' hs
  unfold firstV at H
  unfold takeR at hn
  clear h h'
  cases hb : bestL q.waits with
  | none =>
    rw [hb] at H
    clear hn
    go_enter Try.func23, Try.ntmps23
    go_wp2_with fail
    refine H.mono ?_
    rintro e w1 ⟨rfl, hb⟩
    have hs := hb.size
    have hb' := ((Below.refl w.heap.size w).alloc (Nat.le_refl _) (.cells #[.int .u8 0, .string ⟨#[]⟩] 28)).trans (hb.mono (by simp))
    have HB := Lib.hid hb'
    have hk := (hb.block w.heap.size (by simp)).trans heap_alloc_eq
    have HK := Lib.hid hk
    obtain ⟨c0, f0⟩ := cells_of_block hk 0 (.int .u8 0) rfl
    obtain ⟨c1, f1⟩ := cells_of_block hk 1 (.string ⟨#[]⟩) rfl
    simp at hs
    have hs1 : w.heap.size < w1.heap.size := by omega
    have hs2 : w.heap.size < w1.heap.size + 1 := by omega
    clear hb hb' hk hs
    go_wp2
    have hb2 : ((((w1.setCell ⟨w.heap.size, 0, none⟩ (.int .u8 0)).setCell ⟨w.heap.size, 1, none⟩ (.string ⟨#[]⟩)).alloc (.cells #[.int .u8 0, .string ⟨#[]⟩] 28)).alloc (.cells #[.int .i64 0, .int .u64 0] 66)).heap[w.heap.size]? = some (.cells #[.int .u8 0, .string ⟨#[]⟩] 28) :=
      (heap_alloc_lt (by simp; omega)).trans ((heap_alloc_lt (by simp; omega)).trans (by rw [heap_setCell_same (heap_setCell_same HK.out)]; rfl))
    have q0 := (cells_of_block hb2 0 _ rfl).1
    have q1 := (cells_of_block hb2 1 _ rfl).1
    simp only [List.getElem_toArray, List.getElem_cons_zero, List.getElem_cons_succ] at q0 q1
    refine bodyPost_ret (v := takeV none) (by simp [takeV, results, Try.results23, go_sem, q0, q1]) rfl ⟨rfl, ?_⟩
    exact ((((HB.out).setCell (by simp) _).setCell (by simp) _).alloc (by simp; omega) _).alloc (by simp; omega) _
  | some p =>
    rw [hb] at H hn
    have hgt : now < p.2.2 := by
      simp only at hn
      split at hn
      · cases hn
      · omega
    clear hn
    go_enter Try.func23, Try.ntmps23
    go_wp2_with fail
    refine H.mono ?_
    rintro e w1 ⟨rfl, hb⟩
    have hs := hb.size
    have hb' := ((Below.refl w.heap.size w).alloc (Nat.le_refl _) (.cells #[.int .u8 0, .string ⟨#[]⟩] 28)).trans (hb.mono (by simp))
    have HB := Lib.hid hb'
    have hk := (hb.block w.heap.size (by simp)).trans heap_alloc_eq
    have HK := Lib.hid hk
    obtain ⟨c0, f0⟩ := cells_of_block hk 0 (.int .u8 0) rfl
    obtain ⟨c1, f1⟩ := cells_of_block hk 1 (.string ⟨#[]⟩) rfl
    simp at hs
    have hs1 : w.heap.size < w1.heap.size := by omega
    have hs2 : w.heap.size < w1.heap.size + 1 := by omega
    clear hb hb' hk hs
    go_wp2
    have hb2 : ((((w1.setCell ⟨w.heap.size, 0, none⟩ (.int .u8 0)).setCell ⟨w.heap.size, 1, none⟩ (.string ⟨#[]⟩)).alloc (.cells #[.int .u8 p.1.kind, .string p.1.name] 28)).alloc (.cells #[.int .i64 p.2.1, .int .u64 p.2.2] 66)).heap[w.heap.size]? = some (.cells #[.int .u8 0, .string ⟨#[]⟩] 28) :=
      (heap_alloc_lt (by simp; omega)).trans ((heap_alloc_lt (by simp; omega)).trans (by rw [heap_setCell_same (heap_setCell_same HK.out)]; rfl))
    have q0 := (cells_of_block hb2 0 _ rfl).1
    have q1 := (cells_of_block hb2 1 _ rfl).1
    simp only [List.getElem_toArray, List.getElem_cons_zero, List.getElem_cons_succ] at q0 q1
    refine bodyPost_ret (v := takeV none) (by simp [takeV, results, Try.results23, go_sem, q0, q1]) rfl ⟨rfl, ?_⟩
    exact ((((HB.out).setCell (by simp) _).setCell (by simp) _).alloc (by simp; omega) _).alloc (by simp; omega) _

set_option maxRecDepth 100000 in
set_option maxHeartbeats 1000000 in
theorem take_some (L : QLoc) (q : WQ) (now : Int) (k : GKey) (w : World) (h : QAt w L q) (hs : Since q.waits) (hn : takeR q now = some k) :
    Calls Try.prog 23 #[.pointer (some ⟨L.bq, 0, none⟩), .int .u64 now] w fun e w' => e = .returned (takeV (some k)) ∧ QAt w' L (q.drop k) ∧ Keeps L.mine w w' := by
  have h' := h.keep ((Keeps.refl (fun _ => False) w).alloc (.cells #[.int .u8 0, .string ⟨#[]⟩] 28)) (by simp) (by simp) (by simp)
  have hbq := heap_lt h.hd
  have hlw : L.bw < w.heap.size := by obtain ⟨_, _, x, _⟩ := h.hw; exact heap_lt x
  have hlf : L.bf < w.heap.size := by obtain ⟨_, _, x, _⟩ := h.hf; exact heap_lt x
  obtain ⟨a1, a2⟩ := h.apart
  have H := first_any L q _ h' hs
  unfold firstV at H
  unfold takeR at hn
  clear h
  cases hb : bestL q.waits with
  | none => rw [hb] at hn; cases hn
  | some p =>
    rw [hb] at H hn
    simp only at hn
    obtain ⟨hle, rfl⟩ : p.2.2 ≤ now ∧ p.1 = k := by
      split at hn
      · rename_i h2; exact ⟨h2, by simpa using hn⟩
      · cases hn
    clear hn hb
    have H' := Lib.hid h'
    clear h'
    go_enter Try.func23, Try.ntmps23
    go_wp2_with fail
    refine H.mono ?_
    rintro e w1 ⟨rfl, hb⟩
    have hq1 := (H'.out).keep (Keeps.of_below (F := fun _ => False) hb) (by simp) (by simp) (by simp)
    have hs := hb.size
    have hk := (hb.block w.heap.size (by simp)).trans heap_alloc_eq
    have hK := (((Keeps.refl L.mine w).alloc (.cells #[.int .u8 0, .string ⟨#[]⟩] 28)).trans (Keeps.of_below hb))
    have HK := Lib.hid hK
    clear hb hK H H'
    simp at hs
    have hs1 : w.heap.size < w1.heap.size := by omega
    let k1 := (w1.alloc (.cells #[.int .u8 p.1.kind, .string p.1.name] 28)).alloc (.cells #[.int .i64 p.2.1, .int .u64 p.2.2] 66)
    have hq2 : QAt k1 L q := hq1.keep (((Keeps.refl (fun _ => False) w1).alloc _).alloc _) (by simp) (by simp) (by simp)
    have hk2 : k1.heap[w.heap.size]? = some (.cells #[.int .u8 0, .string ⟨#[]⟩] 28) := (heap_alloc_lt (by simp; omega)).trans ((heap_alloc_lt hs1).trans hk)
    have hsz1 : k1.heap.size = w1.heap.size + 2 := by simp [k1]
    have hx0 : k1.heap[w1.heap.size]? = some (.cells #[.int .u8 p.1.kind, .string p.1.name] 28) := (heap_alloc_lt (by simp)).trans heap_alloc_eq
    have hK1 : Keeps L.mine w k1 := (HK.out.alloc _).alloc _
    have HK1 := Lib.hid hK1
    obtain ⟨hd, ⟨es, c, hbw, hr⟩, ⟨ef, cf, hbf, hrf⟩, hne⟩ := hq2
    obtain ⟨es', c', hr', hdel⟩ := run_mapDelete keyOK Try.underlying59 hr p.1
    have hD := hdel L.bw k1.drew #[59, 28] 0 rfl hbw
    obtain ⟨c0, f0⟩ := cells_of_block hd 0 (.map (some L.bw)) rfl
    obtain ⟨x0, y0⟩ := cells_of_block hx0 0 (.int .u8 p.1.kind) rfl
    obtain ⟨x1, y1⟩ := cells_of_block hx0 1 (.string p.1.name) rfl
    have HR := Lib.hid hr'
    have HRF := Lib.hid hrf
    have Hd := Lib.hid hd
    have HBF := Lib.hid hbf
    have HX0 := Lib.hid hx0
    have HKK := Lib.hid hk2
    have hkw : (Wset k1.drew L.bw (.map es' c')).heap[w.heap.size]? = some (.cells #[.int .u8 0, .string ⟨#[]⟩] 28) := (Wset_ne (by omega)).trans hk2
    have hxw : (Wset k1.drew L.bw (.map es' c')).heap[w1.heap.size]? = some (.cells #[.int .u8 p.1.kind, .string p.1.name] 28) := (Wset_ne (by omega)).trans hx0
    obtain ⟨z0, v0⟩ := cells_of_block hkw 0 (.int .u8 0) rfl
    obtain ⟨z1, v1⟩ := cells_of_block hkw 1 (.string ⟨#[]⟩) rfl
    obtain ⟨z2, v2⟩ := cells_of_block hxw 0 (.int .u8 p.1.kind) rfl
    obtain ⟨z3, v3⟩ := cells_of_block hxw 1 (.string p.1.name) rfl
    have HKW := Lib.hid hkw
    clear hk hk2 hq1 hr hr' hdel hrf hd hbw hbf hx0 hkw hxw hK1 HK
    simp only [k1] at hD c0 f0 x0 x1 y0 y1 z0 z1 z2 z3 v0 v1 v2 v3
    go_wp2
    refine wp_region_T 5 (by kernel_rfl) (by kernel_rfl) ?_
    simp only [List.take_succ_cons, List.take_zero, List.drop_succ_cons, List.drop_zero]
    refine wpStill_step (fun K hK => ?_)
    go_simp
    refine hK _ ?_
    clear hK K
    refine wpStill_step (fun K hK => ?_)
    go_simp
    refine hK _ ?_
    clear hK K
    refine wpStill_step (fun K hK => ?_)
    go_simp
    refine hK _ ?_
    clear hK K
    refine wpStill_step (fun K hK => ?_)
    go_simp
    refine hK _ ?_
    clear hK K
    refine wpStill_step (fun K hK => ?_)
    go_simp
    refine hK _ ?_
    clear hK K
    refine wpStill_nil ?_
    go_wp2
    refine bodyPost_ret (v := takeV (some p.1)) (by simp [takeV, results, Try.results23, go_sem, z0, z1, z2, z3, World.cell?_setCell_far, World.cell?_setCell_same', World.cell?_setCell_other]) rfl ⟨rfl, ?_, ?_⟩
    · have n1 : L.bq ≠ w.heap.size := by omega
      have n2 : L.bw ≠ w.heap.size := by omega
      have n3 : L.bf ≠ w.heap.size := by omega
      refine ⟨?_, ⟨es', c', ?_, HR.out⟩, ⟨ef, cf, ?_, HRF.out⟩, hne⟩
      · exact (heap_setCell_ne n1).trans ((heap_setCell_ne n1).trans ((Wset_ne a1).trans Hd.out))
      · exact (heap_setCell_ne n2).trans ((heap_setCell_ne n2).trans (Wset_same (by show L.bw < k1.heap.size; omega)))
      · exact (heap_setCell_ne n3).trans ((heap_setCell_ne n3).trans ((Wset_ne hne.symm).trans HBF.out))
    · exact (((HK1.out.drew).wset (fun _ => .inr (.inl rfl)) _).setCell (fun h => absurd h (by simp)) _).setCell (fun h => absurd h (by simp)) _

theorem took_any (L : QLoc) (q : WQ) (now : Int) (w : World) (h : QAt w L q) (hs : Since q.waits) :
    Calls Try.prog 23 #[.pointer (some ⟨L.bq, 0, none⟩), .int .u64 now] w fun e w' => e = .returned (takeV (takeR q now)) ∧ QAt w' L (q.took now) ∧ Keeps L.mine w w' := by
  cases hk : takeR q now with
  | none =>
    refine (take_none L q now w h hs hk).mono fun e w' ⟨he, hb⟩ => ⟨he, ?_, Keeps.of_below hb⟩
    simp only [WQ.took, hk]
    exact h.keep (Keeps.of_below (F := fun _ => False) hb) (by simp) (by simp) (by simp)
  | some k =>
    refine (take_some L q now k w h hs hk).mono fun e w' ⟨he, hq, hb⟩ => ⟨he, ?_, hb⟩
    simp only [WQ.took, hk]
    exact hq
end Go.Proofs.Ytemeedfldapcjaa
