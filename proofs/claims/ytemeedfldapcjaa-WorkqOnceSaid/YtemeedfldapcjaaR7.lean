/- A part of the walks: contracts of functions. -/
import Derived.Test.YtemeedfldapcjaaR6
import Derived.Test.YtemeedfldapcjaaQ3
namespace Go.Proofs.Ytemeedfldapcjaa
open Go.RowKit
set_option linter.unusedVariables false
set_option linter.unusedSimpArgs false
def RQ.full (r : RQ) (k : GKey) : Bool := (assoc r.l k).isNone && decide (256 ≤ r.l.length)
def RQ.code (r : RQ) (k : GKey) : Int := if r.full k then 7 else 0
def RQ.add (r : RQ) (k : GKey) : RQ := if r.full k then r else r.put k 0
def RQ.failN (r : RQ) (k : GKey) : Int := min ((assoc r.fs k).getD 0 + 1) 40
def RQ.fail (r : RQ) (k : GKey) (now : Int) : RQ := if r.full k then r else (r.setf k (r.failN k)).put k (failDue now (r.failN k))

/-- behind the look at a key's place, and whether there is room -/
theorem RAt.len {w : World} {R : RLoc} {r : RQ} (h : RAt w R r) : ∃ (ao : Option Addr) (cap : Nat), w.cell? ⟨R.rq, 0, none⟩ = some (.slice ao r.l.length cap) := by
  obtain ⟨ao, cap, hv, _⟩ := row_open h.hl
  have := h.hd
  rw [hv] at this
  exact ⟨ao, cap, (cells_of_block this 0 _ rfl).1⟩

set_option maxRecDepth 100000 in
set_option maxHeartbeats 1000000 in
theorem addR_any (R : RLoc) (r : RQ) (k : GKey) (w : World) (h : RAt w R r) (hlen : r.l.length < 1000) :
    Calls Try.prog 42 #[.pointer (some ⟨R.rq, 0, none⟩), .agg #[.int .u8 k.kind, .string k.name]] w fun e w' => e = .returned (.int .i64 (r.code k)) ∧ ∃ R', RAt w' R' (r.add k) ∧ Keeps R.mine w w' ∧ R.Next R' w := by
  have h' := h.keep ((Keeps.refl (fun _ => False) w).alloc (.cells #[.int .u8 k.kind, .string k.name] 28)) (by simp)
  have H := at_any R r k _ h'
  have HR := Lib.hid h'
  have HK := Lib.hid ((Keeps.refl R.mine w).alloc (.cells #[.int .u8 k.kind, .string k.name] 28))
  have hbx : (w.alloc (.cells #[.int .u8 k.kind, .string k.name] 28)).heap[w.heap.size]? = some (.cells #[.int .u8 k.kind, .string k.name] 28) := heap_alloc_eq
  have HX := Lib.hid hbx
  clear h h' hbx
  have hsp := atI_split r.l k
  by_cases hfu : r.full k = true
  · have hc : r.code k = 7 := by simp [RQ.code, hfu]
    have ha : r.add k = r := by simp [RQ.add, hfu]
    rw [hc, ha]
    simp only [RQ.full, Bool.and_eq_true, decide_eq_true_eq, Option.isNone_iff_eq_none] at hfu
    obtain ⟨hn, hl⟩ := hfu
    have ea : atI r.l k = -1 := by
      rcases hsp with ⟨e, _⟩ | ⟨i, hi, _, e, _⟩
      · exact e
      · rw [hn] at e; cases e
    rw [ea] at H
    clear hsp hn ea hc ha
    go_enter Try.func42, Try.ntmps42
    go_wp2_with fail
    refine H.mono ?_
    rintro e w1 ⟨rfl, hb⟩
    have hR1 := HR.out.keep (Keeps.of_below (F := fun _ => False) hb) (by simp)
    have HR1 := Lib.hid hR1
    have HK1 := Lib.hid (HK.out.trans (Keeps.of_below hb))
    obtain ⟨ao, cap, c0⟩ := hR1.len
    clear hb hR1 H
    go_wp2
    go_ret
    exact ⟨rfl, R, HR1.out, HK1.out, .refl _ _⟩
  · have hc : r.code k = 0 := by simp [RQ.code, hfu]
    have ha : r.add k = r.put k 0 := by simp [RQ.add, hfu]
    rw [hc, ha]
    have hcase : (atI r.l k = -1 ∧ ¬ (256 : Int) ≤ r.l.length) ∨ ∃ i : Nat, atI r.l k = i := by
      rcases hsp with ⟨e, e2, _⟩ | ⟨i, hi, e, _⟩
      · left; refine ⟨e, ?_⟩
        intro h
        exact hfu (by simp [RQ.full, e2]; omega)
      · right; exact ⟨i, e⟩
    clear hsp hc ha hfu
    rcases hcase with ⟨ea, hl⟩ | ⟨i, ea⟩
    · rw [ea] at H
      clear ea
      go_enter Try.func42, Try.ntmps42
      go_wp2_with fail
      refine H.mono ?_
      rintro e w1 ⟨rfl, hb⟩
      have hR1 := HR.out.keep (Keeps.of_below (F := fun _ => False) hb) (by simp)
      have hx1 := (hb.block _ (heap_lt HX.out)).trans HX.out
      obtain ⟨b0, j0⟩ := cells_of_block hx1 0 _ rfl
      obtain ⟨b1, j1⟩ := cells_of_block hx1 1 _ rfl
      simp only [List.getElem_toArray, List.getElem_cons_zero, List.getElem_cons_succ] at b0 b1
      have HR1 := Lib.hid hR1
      have HK1 := Lib.hid (HK.out.trans (Keeps.of_below hb))
      obtain ⟨ao, cap, c0⟩ := hR1.len
      clear hb hR1 H hx1
      go_wp2_with fail
      refine (putR_any R r k 0 w1 HR1.out hlen).mono ?_
      rintro e w2 ⟨rfl, R', h2, k2, n2⟩
      have H2 := Lib.hid h2
      have K2 := Lib.hid (HK1.out.trans k2)
      have N2 := Lib.hid ((RLoc.Next.refl R w).trans n2 HK1.out.size)
      clear h2 k2 n2
      go_wp2
      go_ret
      exact ⟨rfl, R', H2.out, K2.out, N2.out⟩
    · rw [ea] at H
      have hi0 : ¬ (i : Int) < 0 := by omega
      clear ea
      go_enter Try.func42, Try.ntmps42
      go_wp2_with fail
      refine H.mono ?_
      rintro e w1 ⟨rfl, hb⟩
      have hR1 := HR.out.keep (Keeps.of_below (F := fun _ => False) hb) (by simp)
      have hx1 := (hb.block _ (heap_lt HX.out)).trans HX.out
      obtain ⟨b0, j0⟩ := cells_of_block hx1 0 _ rfl
      obtain ⟨b1, j1⟩ := cells_of_block hx1 1 _ rfl
      simp only [List.getElem_toArray, List.getElem_cons_zero, List.getElem_cons_succ] at b0 b1
      have HR1 := Lib.hid hR1
      have HK1 := Lib.hid (HK.out.trans (Keeps.of_below hb))
      obtain ⟨ao, cap, c0⟩ := hR1.len
      clear hb hR1 H hx1
      go_wp2_with fail
      refine (putR_any R r k 0 w1 HR1.out hlen).mono ?_
      rintro e w2 ⟨rfl, R', h2, k2, n2⟩
      have H2 := Lib.hid h2
      have K2 := Lib.hid (HK1.out.trans k2)
      have N2 := Lib.hid ((RLoc.Next.refl R w).trans n2 HK1.out.size)
      clear h2 k2 n2
      go_wp2
      go_ret
      exact ⟨rfl, R', H2.out, K2.out, N2.out⟩

set_option maxRecDepth 100000 in
theorem forgetR_any (R : RLoc) (r : RQ) (k : GKey) (w : World) (h : RAt w R r) (hlen : r.fs.length < 1000) :
    Calls Try.prog 44 #[.pointer (some ⟨R.rq, 0, none⟩), .agg #[.int .u8 k.kind, .string k.name]] w fun e w' => e = .returned (.int .i64 0) ∧ ∃ R', RAt w' R' (r.setf k 0) ∧ Keeps R.mine w w' ∧ R.Next R' w := by
  have h' := h.keep ((Keeps.refl (fun _ => False) w).alloc (.cells #[.int .u8 k.kind, .string k.name] 28)) (by simp)
  have H := setR_any R r k 0 _ h' hlen
  have HK := Lib.hid ((Keeps.refl R.mine w).alloc (.cells #[.int .u8 k.kind, .string k.name] 28))
  clear h h'
  go_enter Try.func44, Try.ntmps44
  go_wp2_with fail
  refine H.mono ?_
  rintro e w2 ⟨rfl, R', h2, k2, n2⟩
  have H2 := Lib.hid h2
  have K2 := Lib.hid (HK.out.trans k2)
  have N2 := Lib.hid ((RLoc.Next.refl R w).trans n2 HK.out.size)
  clear h2 k2 n2 H
  go_wp2
  go_ret
  exact ⟨rfl, R', H2.out, K2.out, N2.out⟩
end Go.Proofs.Ytemeedfldapcjaa
