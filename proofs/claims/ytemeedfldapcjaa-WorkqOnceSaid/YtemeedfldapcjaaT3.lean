/- A part of the walks: contracts of functions. -/
import Derived.Test.YtemeedfldapcjaaT2
namespace Go.Proofs.Ytemeedfldapcjaa
open Go.RowKit
set_option linter.unusedVariables false
set_option linter.unusedSimpArgs false
/-- where the loop of the document's List stands -/
structure LR (w wr : World) (R : RLoc) (q : WQ) (r : RQ) (keys out : List GKey) (v : Value) : Prop where
  ra : RAt wr R r
  rel : Rel q r 500
  b : Below w.heap.size w wr
  new : ∀ i, R.mine i → w.heap.size ≤ i
  row : wr.ownsRow w.heap.size 28 2 v out.length (out.flatMap keyCells)
  eqn : keys = out ++ drain q.waits.length q.waits

theorem RAt.apartK {w : World} {R : RLoc} {r : RQ} (hr : RAt w R r) {i : Nat} {cur : Array Value} {f : Nat × Nat} (h : w.heap[i]? = some (.cells cur 28 f)) : ¬ R.mine i := by
  have hd := hr.hd
  rintro (e | e | e)
  · rw [← e, h] at hd; exact absurd hd (by simp)
  · obtain ⟨c, hg⟩ := row_block hr.hl e; rw [h] at hg; exact absurd hg (by simp)
  · obtain ⟨c, hg⟩ := row_block hr.hf e; rw [h] at hg; exact absurd hg (by simp)

theorem drain_le (n : Nat) (l : List (GKey × (Int × Int))) : (drain n l).length ≤ n := by
  induction n generalizing l with
  | zero => simp [drain]
  | succ n ih =>
    simp only [drain]
    split
    · simp
    · rename_i p _; have := ih (assocDel l p.1); simp only [List.length_cons]; omega

set_option maxRecDepth 100000 in
set_option maxHeartbeats 4000000 in
theorem listR_any (R : RLoc) (q : WQ) (r : RQ) (w : World) (h : RAt w R r) (hrel : Rel q r 500) :
    Calls Try.prog 41 #[.pointer (some ⟨R.rq, 0, none⟩)] w (ListPost w (drain q.waits.length q.waits)) := by
  have hdl : (drain q.waits.length q.waits).length ≤ 500 := Nat.le_trans (drain_le _ _) hrel.len
  have HDL := Lib.hid hdl
  have HREL := Lib.hid hrel
  have HR := Lib.hid h
  have hlen : r.l.length < 1000 := by have := hrel.len; have h2 := congrArg List.length hrel.l; simp at h2; omega
  have hfl : r.fs.length < 1000 := by have := hrel.flen; omega
  have H := Lib.hid (forkR_any R r w h hlen hfl)
  clear h hrel hdl hlen hfl
  generalize hkeys : drain q.waits.length q.waits = keys at *
  have HKE := Lib.hid hkeys
  clear hkeys
  go_enter Try.func41, Try.ntmps41
  go_wp2_with fail
  refine (H.out).mono ?_
  rintro e w1 ⟨R1, rfl, hr1, hb1, hn1⟩
  have HL1 := Lib.hid (show LR w w1 R1 q r keys [] (.slice none 0 0) from ⟨hr1, HREL.out, hb1, hn1, World.ownsRow_nil _ _ _ _, HKE.out.symm⟩)
  clear hr1 hb1 hn1 HKE HREL HR H
  generalize hrq : R1.rq = rq at *
  have HRQ := Lib.hid hrq
  clear hrq
  go_wp2_with fail
  go_loopw [3] (fun v wr => ∃ (R : RLoc) (q : WQ) (r : RQ) (out : List GKey), Hid (R.rq = rq) ∧ Hid (LR w wr R q r keys out v)) (fun v _ => 1000 - sliceN v)
  case atStart => exact ⟨R1, q, r, [], HRQ, HL1⟩
  case round =>
    obtain ⟨R, q, r, out, hrq, hL⟩ := hrel
    have hol : out.length ≤ 500 := by
      have h1 := congrArg List.length hL.out.eqn
      have h2 := HDL.out
      simp at h1; omega
    have hlen : r.l.length < 1000 := by have := hL.out.rel.len; have h2 := congrArg List.length hL.out.rel.l; simp at h2; omega
    have HLEN := Lib.hid hlen
    clear hlen HL1 HRQ
    have HT := Lib.hid (takeR_any R r topU wr hL.out.ra HLEN.out)
    rw [hrq.out] at HT
    go_wp2_with fail
    refine (HT.out).mono ?_
    rintro e w4 (⟨hnd, rfl, hb⟩ | ⟨i, hi, hf, hd, rfl, R4, hr4, hk4, hn4⟩)
    · have hkk : keys = out := by
        have h1 := hL.out.rel.takeNone hnd
        rcases take_top hL.out.rel.top with ⟨_, h2⟩ | ⟨p, h2, _⟩
        · rw [hL.out.eqn, drain_nil _ h2]; simp
        · rw [h1] at h2; cases h2
      have HKK := Lib.hid hkk
      have hrow4 : w4.ownsRow w.heap.size 28 2 u3 out.length (out.flatMap keyCells) := keysRow_own hL.out.row fun i hi => hb.block i (keysRow_lt hL.out.row hi).2
      obtain ⟨ao, cap, hvs⟩ : ∃ (ao : Option Addr) (cap : Nat), u3 = .slice ao out.length cap := by
        obtain ⟨hx, ⟨rfl, h0⟩ | ⟨g, cap, cur, hv, _⟩⟩ := hL.out.row
        · exact ⟨none, 0, by rw [h0]⟩
        · exact ⟨_, cap, hv⟩
      have HROW := Lib.hid hrow4
      have HB4 := Lib.hid (hL.out.b.trans (hb.mono hL.out.b.size))
      clear hkk hrow4 hb hnd HT
      simp only [takeV]
      go_wp2
      go_ret
      rw [HKK.out]
      exact ⟨_, rfl, keysRow_own HROW.out fun i hi => heap_alloc_lt (keysRow_lt HROW.out hi).2, HB4.out.alloc HB4.out.size _⟩
    · obtain ⟨htk, hrel4⟩ := hL.out.rel.takeSome hi hf hd
      have hp : ∃ p, bestL q.waits = some p ∧ p.1 = r.l[i].1 := by
        rcases take_top hL.out.rel.top with ⟨h2, _⟩ | ⟨p, h2, h3⟩
        · rw [htk] at h2; cases h2
        · exact ⟨p, h3, by rw [htk] at h2; simpa using h2.symm⟩
      obtain ⟨p, hbp, hpk⟩ := hp
      generalize hk : r.l[i].1 = k at *
      have hrow4 : w4.ownsRow w.heap.size 28 2 u3 out.length (out.flatMap keyCells) := keysRow_own hL.out.row fun i hi => by
        obtain ⟨cur, hc⟩ := keysRow_block hL.out.row hi
        exact hk4.block _ (heap_lt hc) (hL.out.ra.apartK hc)
      have hb4 := below_mine hL.out.b hk4 hL.out.new
      have hnew4 : ∀ i, R4.mine i → w.heap.size ≤ i := fun j hj => (hn4.own j hj).elim (hL.out.new j) (fun h => Nat.le_trans hL.out.b.size h)
      have heq4 : keys = out ++ k :: drain (q.drop k).waits.length (q.drop k).waits := by rw [hL.out.eqn, drain_cons hbp, hpk]; rfl
      have hrow5 : ((w4.alloc (.cells #[.int .u8 k.kind, .string k.name] 28)).alloc (.cells #[.int .u8 k.kind, .string k.name] 28)).ownsRow w.heap.size 28 2 u3 out.length (out.flatMap keyCells) := keysRow_own hrow4 fun i hi => (heap_alloc_lt (by have := (keysRow_lt hrow4 hi).2; simp; omega)).trans (heap_alloc_lt (keysRow_lt hrow4 hi).2)
      have HROW := Lib.hid hrow5
      have HRN := Lib.hid (row_n hrow4)
      have HB4 := Lib.hid hb4
      have HR4 := Lib.hid hr4
      have HREL4 := Lib.hid hrel4
      have HN4 := Lib.hid hnew4
      have HEQ := Lib.hid heq4
      have HRQ4 := Lib.hid (hn4.rq.trans hrq.out)
      have hsz : (w4.alloc (.cells #[.int .u8 k.kind, .string k.name] 28)).heap.size = w4.heap.size + 1 := by simp
      have HSZ := Lib.hid hsz
      clear hf hd htk hrel4 hbp hpk hk hrow4 hb4 hnew4 heq4 hrow5 hr4 hk4 hn4 HT hsz
      simp only [takeV]
      go_wp2_with (refine wpList_append_key rfl _ _ rfl w.heap.size _ out.length out rfl HROW.out k (w4.heap.size + 1) rfl (by rw [← HSZ.out]; exact heap_alloc_eq) (by omega) (by have := HB4.out.size; simp; omega) ?_)
      intro vn wx hrow hg
      have hr5 : RAt ((w4.alloc (.cells #[.int .u8 k.kind, .string k.name] 28)).alloc (.cells #[.int .u8 k.kind, .string k.name] 28)) R4 (r.drop i) := HR4.out.keep (((Keeps.refl (fun _ => False) w4).alloc _).alloc _) (by simp)
      have hl5 : LR w wx R4 (q.drop k) (r.drop i) keys (out ++ [k]) vn := by
        refine ⟨hr5.keep (Keeps.of_grown hg) (fun j hj he => ?_), HREL4.out, ?_, HN4.out, by simpa using hrow, by rw [HEQ.out]; simp⟩
        · obtain ⟨cur, hc⟩ := keysRow_block HROW.out he
          exact hr5.apartK hc hj
        · exact ((HB4.out.alloc HB4.out.size _).alloc (by have := HB4.out.size; simp; omega) _).trans (Below.grown_at hg (fun i hi => (keysRow_lt HROW.out hi).1) (by have := HB4.out.size; simp; omega))
      have HL5 := Lib.hid hl5
      have HRN2 := Lib.hid (row_n hrow)
      clear hr5 hl5 hrow hg
      go_wp2
      go_roundw
      case rel => exact ⟨R4, q.drop k, r.drop i, out ++ [k], HRQ4, HL5⟩
      case measure => rw [HRN2.out, HRN.out]; omega
end Go.Proofs.Ytemeedfldapcjaa
