/- A part of the walks: contracts of functions. -/
import Derived.Test.YtemeedfldapcjaaT1
import Derived.Test.YtemeedfldapcjaaQ8
namespace Go.Proofs.Ytemeedfldapcjaa
open Go.RowKit
set_option linter.unusedVariables false
set_option linter.unusedSimpArgs false
def sliceN (v : Value) : Nat := match v with | .slice _ n _ => n | _ => 0
theorem row_n {w : World} {e s : Nat} {v : Value} {n : Nat} {xs : List Value} {b : Nat} (h : w.ownsRow b e s v n xs) : sliceN v = n := by
  obtain ⟨hx, ⟨rfl, rfl⟩ | ⟨g, cap, cur, hv, hb, hg, h1⟩⟩ := h
  · rfl
  · rw [hv]; rfl
set_option maxRecDepth 100000 in
set_option maxHeartbeats 4000000 in
theorem list_any (L : QLoc) (q : WQ) (w : World) (h : QAt w L q) (hs : Since q.waits) (hk : (q.waits.map (·.1)).Nodup) (ht : ∀ p ∈ q.waits, p.2.2 ≤ topU) (hl : q.waits.length ≤ 500) :
    Calls Try.prog 24 #[.pointer (some ⟨L.bq, 0, none⟩)] w (ListPost w (drain q.waits.length q.waits)) := by
  have hdl : (drain q.waits.length q.waits).length ≤ 500 := by
    refine Nat.le_trans ?_ hl
    generalize q.waits.length = n
    generalize q.waits = l
    induction n generalizing l with
    | zero => simp [drain]
    | succ n ih =>
      simp only [drain]
      split
      · simp
      · rename_i p _; have := ih (assocDel l p.1); simp only [List.length_cons]; omega
  have HDL := Lib.hid hdl
  have HS := Lib.hid hs
  have HK := Lib.hid hk
  have HT := Lib.hid ht
  have HQ := Lib.hid h
  clear h hs hk ht hl hdl
  generalize hkeys : drain q.waits.length q.waits = keys at *
  have HKE := Lib.hid hkeys
  clear hkeys
  go_enter Try.func24, Try.ntmps24
  go_wp2_with fail
  refine (fork_any L q w HQ.out).mono ?_
  rintro e w1 ⟨M, rfl, hm, hb, g1, g2, g3⟩
  have hls : LS w w1 M q keys [] [] (.slice none 0 0) := ⟨hm, hb, by rintro i (rfl | rfl | rfl) <;> assumption, World.ownsRow_nil _ _ _ _, HS.out, HK.out, HT.out, by rw [HKE.out]; rfl⟩
  have HLS := Lib.hid hls
  clear hm hb g1 g2 g3 hls HS HK HT HQ HKE
  go_wp2_with fail
  refine (took_any M q topU w1 HLS.out.qa HLS.out.since).mono ?_
  rintro e w2 ⟨rfl, hq, hk⟩
  have hst : ∃ (q' : WQ) (k : GKey) (ok : Bool), takeV (takeR q topU) = .tuple #[.agg #[.int .u8 k.kind, .string k.name], .bool ok] ∧ Hid (LS w w2 M q' keys [] (if ok then [k] else []) (.slice none 0 0)) ∧ (ok = false → Hid (keys = [])) := by
    rcases HLS.out.took hq hk with ⟨e1, e2, e3⟩ | ⟨k, e1, e2⟩
    · exact ⟨q, ⟨0, ⟨#[]⟩⟩, false, by rw [e1]; rfl, Lib.hid e2, fun _ => Lib.hid e3⟩
    · exact ⟨q.drop k, k, true, by rw [e1]; rfl, Lib.hid e2, fun h => by cases h⟩
  obtain ⟨q', k, ok, hv, hL, hE⟩ := hst
  rw [hv]
  clear hq hk hv HLS
  go_wp2_with fail
  have hb0 : (w2.alloc (.cells #[.int .u8 k.kind, .string k.name] 28)).heap[w2.heap.size]? = some (.cells #[.int .u8 k.kind, .string k.name] 28) := heap_alloc_eq
  have hl0 : LS w (w2.alloc (.cells #[.int .u8 k.kind, .string k.name] 28)) M q' keys [] (if ok then [k] else []) (.slice none 0 0) := by
    have hx := hL.out
    exact ⟨hx.qa.keep ((Keeps.refl (fun _ => False) w2).alloc _) (by simp) (by simp) (by simp), hx.b.alloc hx.b.size _, hx.new, World.ownsRow_nil _ _ _ _, hx.since, hx.ks, hx.top, hx.eqn⟩
  have HL0 := Lib.hid hl0
  have HB0 := Lib.hid hb0
  have hle0 : w.heap.size ≤ w2.heap.size := hL.out.b.size
  clear hb0 hl0 hL
  generalize hB0 : w2.heap.size = B0 at *
  generalize hW0 : w2.alloc (.cells #[.int .u8 k.kind, .string k.name] 28) = W0 at *
  clear hB0 hW0
  go_loopw [3, 5, 6] (fun v b okv wr => ∃ (q : WQ) (k : GKey) (ok : Bool) (B : Nat) (out : List GKey), b = .pointer (some ⟨B, 0, none⟩) ∧ okv = .bool ok ∧ Hid (LS w wr M q keys out (if ok then [k] else []) v) ∧ Hid (wr.heap[B]? = some (.cells #[.int .u8 k.kind, .string k.name] 28)) ∧ w.heap.size ≤ B ∧ Hid (v.ownBlock ≠ some B) ∧ (ok = false → Hid (keys = out))) (fun v _ _ _ => 1000 - sliceN v)
  case atStart => exact ⟨q', k, ok, B0, [], rfl, rfl, HL0, HB0, hle0, Lib.hid (by simp [Value.ownBlock]), hE⟩
  case round =>
    obtain ⟨q, k, ok, B, out, rfl, rfl, hL, hB, hle, hne, hE⟩ := hrel
    cases ok with
    | false =>
      have HE := hE rfl
      clear hE
      obtain ⟨ao, cap, hvs, _⟩ : ∃ (ao : Option Addr) (cap : Nat), u3 = .slice ao out.length cap ∧ True := by
        obtain ⟨hx, ⟨rfl, h0⟩ | ⟨g, cap, cur, hv, _⟩⟩ := hL.out.row
        · exact ⟨none, 0, by rw [h0], trivial⟩
        · exact ⟨_, cap, hv, trivial⟩
      go_wp2
      go_ret
      exact ⟨u3, rfl, by rw [HE.out]; exact ⟨hL.out.row, hL.out.b⟩⟩
    | true =>
      simp only [if_true] at hL
      have hol : out.length ≤ 499 := by
        have h1 := congrArg List.length hL.out.eqn
        have h2 := HDL.out
        simp at h1; omega
      obtain ⟨b0, _⟩ := cells_of_block hB.out 0 _ rfl
      obtain ⟨b1, _⟩ := cells_of_block hB.out 1 _ rfl
      simp only [List.getElem_toArray, List.getElem_cons_zero, List.getElem_cons_succ] at b0 b1
      have HRN := Lib.hid (row_n hL.out.row)
      have hrow1 : (wr.alloc (.cells #[.int .u8 k.kind, .string k.name] 28)).ownsRow w.heap.size 28 2 u3 out.length (out.flatMap keyCells) := keysRow_own hL.out.row fun i hi => heap_alloc_lt (keysRow_lt hL.out.row hi).2
      have HROW := Lib.hid hrow1
      clear hrow1 hE
      go_wp2_with (refine wpList_append_key rfl _ _ rfl w.heap.size _ out.length out rfl HROW.out k wr.heap.size rfl heap_alloc_eq (by omega) (by have := hL.out.b.size; simp; omega) ?_)
      intro vn wx hrow hg
      have hq1 : QAt (wr.alloc (.cells #[.int .u8 k.kind, .string k.name] 28)) M q := hL.out.qa.keep ((Keeps.refl (fun _ => False) wr).alloc _) (by simp) (by simp) (by simp)
      have hq2 : QAt wx M q := hq1.keepM (Keeps.of_grown hg) (fun i hi he => by
        obtain ⟨cur, hc⟩ := keysRow_block HROW.out he
        exact hq1.apartK hc hi)
      have hb2 : Below w.heap.size w wx := (hL.out.b.alloc hL.out.b.size _).trans (Below.grown_at hg (fun i hi => (keysRow_lt HROW.out hi).1) (by have := hL.out.b.size; simp; omega))
      have hBx : wx.heap[B]? = some (.cells #[.int .u8 k.kind, .string k.name] 28) := (hg.block B (by simp; exact Nat.lt_succ_of_lt (heap_lt hB.out)) (fun e => hne.out e.symm)).trans ((heap_alloc_lt (heap_lt hB.out)).trans hB.out)
      have HR2 := Lib.hid hrow
      have HQ2 := Lib.hid hq2
      have HB2 := Lib.hid hb2
      clear hrow hg hq1 hq2 hb2 b0 b1
      obtain ⟨b0, _⟩ := cells_of_block hBx 0 _ rfl
      obtain ⟨b1, _⟩ := cells_of_block hBx 1 _ rfl
      simp only [List.getElem_toArray, List.getElem_cons_zero, List.getElem_cons_succ] at b0 b1
      clear hBx
      have hl3 : LS w (wx.alloc (.cells #[.int .u8 k.kind, .string k.name] 28)) M q keys (out ++ [k]) [] vn :=
        ⟨HQ2.out.keep ((Keeps.refl (fun _ => False) wx).alloc _) (by simp) (by simp) (by simp), HB2.out.alloc HB2.out.size _, hL.out.new, by
          have h2 := HR2.out
          refine keysRow_own (w := wx) (by simpa using h2) fun i hi => heap_alloc_lt (keysRow_lt HR2.out hi).2, hL.out.since, hL.out.ks, hL.out.top, by rw [hL.out.eqn]; simp⟩
      have HL3 := Lib.hid hl3
      have HB3 := Lib.hid (show (wx.alloc (.cells #[.int .u8 k.kind, .string k.name] 28)).heap[wx.heap.size]? = some (.cells #[.int .u8 k.kind, .string k.name] 28) from heap_alloc_eq)
      have HLE := Lib.hid HB2.out.size
      have HVN := Lib.hid (show vn.ownBlock ≠ some wx.heap.size from fun e => by have := (keysRow_lt HR2.out e).2; omega)
      have HRN2 := Lib.hid (row_n HR2.out)
      clear hl3
      go_wp2_with fail
      refine (took_any M q topU _ HL3.out.qa HL3.out.since).mono ?_
      rintro e w5 ⟨rfl, hq, hk⟩
      have hB5 := (hk.block _ (heap_lt HB3.out) (HL3.out.qa.apartK HB3.out)).trans HB3.out
      have hst : ∃ (q' : WQ) (k' : GKey) (ok : Bool), takeV (takeR q topU) = .tuple #[.agg #[.int .u8 k'.kind, .string k'.name], .bool ok] ∧ Hid (LS w w5 M q' keys (out ++ [k]) (if ok then [k'] else []) vn) ∧ (ok = false → Hid (keys = out ++ [k])) := by
        rcases HL3.out.took hq hk with ⟨e1, e2, e3⟩ | ⟨k', e1, e2⟩
        · exact ⟨q, ⟨0, ⟨#[]⟩⟩, false, by rw [e1]; rfl, Lib.hid e2, fun _ => Lib.hid e3⟩
        · exact ⟨q.drop k', k', true, by rw [e1]; rfl, Lib.hid e2, fun h => by cases h⟩
      obtain ⟨q', k', ok, hv, hL5, hE5⟩ := hst
      rw [hv]
      have HB5 := Lib.hid hB5
      obtain ⟨y0, z0⟩ := cells_of_block hB5 0 _ rfl
      obtain ⟨y1, z1⟩ := cells_of_block hB5 1 _ rfl
      simp only [List.getElem_toArray, List.getElem_cons_zero, List.getElem_cons_succ] at y0 y1
      have hfin : LS w ((w5.setCell ⟨wx.heap.size, 0, none⟩ (.int .u8 k'.kind)).setCell ⟨wx.heap.size, 1, none⟩ (.string k'.name)) M q' keys (out ++ [k]) (if ok then [k'] else []) vn := by
        have hx := hL5.out
        have hnm := hx.qa.apartK HB5.out
        refine ⟨hx.qa.keepM (F := fun i => i = wx.heap.size) (((Keeps.refl (fun i => i = wx.heap.size) w5).setCell (p := ⟨wx.heap.size, 0, none⟩) (fun _ => rfl) _).setCell (p := ⟨wx.heap.size, 1, none⟩) (fun _ => rfl) _) (fun i hi e => hnm (e ▸ hi)), (hx.b.setCell (p := ⟨wx.heap.size, 0, none⟩) HLE.out _).setCell (p := ⟨wx.heap.size, 1, none⟩) HLE.out _, hx.new, ?_, hx.since, hx.ks, hx.top, hx.eqn⟩
        refine keysRow_own hx.row fun i hi => ?_
        have hne : i ≠ wx.heap.size := fun e => HVN.out (e ▸ hi)
        exact (heap_setCell_ne hne).trans (heap_setCell_ne hne)
      have hfb : ((w5.setCell ⟨wx.heap.size, 0, none⟩ (.int .u8 k'.kind)).setCell ⟨wx.heap.size, 1, none⟩ (.string k'.name)).heap[wx.heap.size]? = some (.cells #[.int .u8 k'.kind, .string k'.name] 28) := by
        rw [heap_setCell_same (heap_setCell_same HB5.out)]; rfl
      have HFIN := Lib.hid hfin
      have HFB := Lib.hid hfb
      clear hfin hfb hq hk hB5 hv b0 b1
      go_wp2
      go_roundw
      case rel => exact ⟨q', k', ok, wx.heap.size, out ++ [k], rfl, rfl, HFIN, HFB, HLE.out, HVN, hE5⟩
      case measure => rw [HRN2.out, HRN.out]; omega
end Go.Proofs.Ytemeedfldapcjaa
