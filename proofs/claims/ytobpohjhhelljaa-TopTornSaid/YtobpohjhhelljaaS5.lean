/- Layer 6 (store): lasting, Put: the program's. -/
import Derived.Test.YtobpohjhhelljaaS4
import Derived.Test.YtobpohjhhelljaaW3
import Derived.Test.YtobpohjhhelljaaB13
namespace Go.Proofs.Ytobpohjhhelljaa
open Go.RowKit
set_option linter.unusedVariables false
set_option linter.unusedSimpArgs false


/-- a store: its memory, and its log that holds its changes, all of them synced -/
structure SA (w : World) (B : Nat) (L : SLoc) (cv lv : Value) (ms : List (GKey × Obj)) (cs : List Ev) (n most : Nat) : Prop where
  sm : SM w B L cv ms cs
  lg : LogAt w B L.g lv n (encs (cs.map chE) 0) n most
  ok : ∀ e ∈ cs, e.Typed ∧ rightB e.obj = true
  om : ∀ x ∈ ms, x.2.Typed ∧ rightB x.2 = true
  vr : verS cs = (cs.length : Int)
def SLoc.all (L : SLoc) (cv lv : Value) (i : Nat) : Prop := L.mine cv i ∨ i = L.g ∨ lv.ownBlock = some i
theorem SM.apart {w : World} {B : Nat} {L : SLoc} {cv lv : Value} {ms : List (GKey × Obj)} {cs : List Ev} {n last most : Nat} {bs : Bs} (h : SM w B L cv ms cs) (hl : LogAt w B L.g lv n bs last most) {i : Nat} (hi : L.mine cv i) : ¬ (i = L.g ∨ lv.ownBlock = some i) := by
  obtain ⟨es, c, hm, _⟩ := h.mp
  have hp := h.hd
  have hg := hl.cells
  rintro (hx | hx)
  · subst hx
    rcases hi with hi | hi | hi
    · rw [hi, hp] at hg; cases hg
    · rw [hi, hm] at hg; cases hg
    · obtain ⟨_, _, hc⟩ := ownsRow_cells h.ch hi
      rw [hg] at hc; cases hc
  · obtain ⟨_, _, hr⟩ := ownsRow_cells hl.row.2 hx
    rcases hi with hi | hi | hi
    · rw [hi, hp] at hr; cases hr
    · rw [hi, hm] at hr; cases hr
    · obtain ⟨_, _, hc⟩ := ownsRow_cells h.ch hi
      rw [hr] at hc; cases hc
theorem SA.good {w : World} {B : Nat} {L : SLoc} {cv lv : Value} {ms : List (GKey × Obj)} {cs : List Ev} {n most : Nat} (h : SA w B L cv lv ms cs n most) : Good (cs.map chE) := by
  intro r hr
  obtain ⟨e, he, rfl⟩ := List.mem_map.1 hr
  have := chE_len (h.ok e he).1 (h.ok e he).2
  omega
theorem SA.below {w w' : World} {B : Nat} {L : SLoc} {cv lv : Value} {ms : List (GKey × Obj)} {cs : List Ev} {n most : Nat} (h : SA w B L cv lv ms cs n most) (hb : Below w.heap.size w w') : SA w' B L cv lv ms cs n most := ⟨h.sm.below hb, h.lg.below hb, h.ok, h.om, h.vr⟩

theorem put_mem {l : List (GKey × Obj)} {k : GKey} {o : Obj} {x : GKey × Obj} (h : x ∈ assocPut l k o) : x ∈ l ∨ x = (k, o) := by
  unfold assocPut at h
  split at h
  · exact List.mem_or_eq_of_mem_set h
  · simpa using h
theorem del_mem {l : List (GKey × Obj)} {k : GKey} {x : GKey × Obj} (h : x ∈ assocDel l k) : x ∈ l := by
  unfold assocDel at h
  split at h
  · exact List.mem_of_mem_eraseIdx h
  · exact h
theorem do_mem {l : List (GKey × Obj)} {c : Ev} {x : GKey × Obj} (h : x ∈ doM l c) : x ∈ l ∨ x.2 = c.obj := by
  unfold doM at h
  split at h
  · exact .inl (del_mem h)
  · rcases put_mem h with h | h
    · exact .inl h
    · exact .inr (by rw [h])
/-- what a change that is written makes of a store: the error, the objects, the changes, how many blocks the log has -/
def lastM (ms : List (GKey × Obj)) (cs : List Ev) (n most : Nat) (c : Ev) : Int × List (GKey × Obj) × List Ev × Nat :=
  if most - n < needN (chE c).length then (7, ms, cs, n) else (0, doM ms c, cs ++ [c], n + needN (chE c).length)
def LastPost (w : World) (B : Nat) (L : SLoc) (cv lv : Value) (r : Int × List (GKey × Obj) × List Ev × Nat) (most : Nat) (e : Ending) (w' : World) : Prop :=
  e = .returned (.int .i64 r.1) ∧ ∃ cv' lv', SA w' B L cv' lv' r.2.1 r.2.2.1 r.2.2.2 most ∧ Keeps (L.all cv lv) w w'
theorem encs_snoc (cs : List Ev) (c : Ev) : encs ((cs ++ [c]).map chE) 0 = encs (cs.map chE) 0 ++ recd (chE c) ((cs.map chE).length + 1) := by
  rw [List.map_append, encs_append]
  simp [encs, enc]

set_option maxRecDepth 100000 in
set_option maxHeartbeats 4000000 in
theorem slasting_any (w : World) (B : Nat) (L : SLoc) (cv lv : Value) (ms : List (GKey × Obj)) (cs : List Ev) (n most : Nat) (h : SA w B L cv lv ms cs n most) (c : Ev) (ht : c.Typed) (hf : c.obj.Fits) (hr : rightB c.obj = true) (hl : cs.length ≤ 100000) (hB : B ≤ w.heap.size) (hcv : c.version = verS cs + 1) :
    Calls Try.prog 33 #[.pointer (some ⟨L.p, 0, none⟩), .agg (cellsEv c)] w (LastPost w B L cv lv (lastM ms cs n most c) most) := by
  have hlen := chE_len ht hr
  have hb0 : Below w.heap.size w (w.alloc (.cells (cellsEv c) 69)) := (Below.refl _ w).alloc (Nat.le_refl _) _
  have HX := Lib.hid (EvBox.mk (w := w.alloc (.cells (cellsEv c) 69)) (b := w.heap.size) (e := c) heap_alloc_eq)
  have HB0 := Lib.hid hb0
  have H := Lib.hid h
  have HT := Lib.hid ht
  have HF := Lib.hid hf
  have HR := Lib.hid hr
  have HLEN := Lib.hid hlen
  have HCV := Lib.hid hcv
  clear hb0 h ht hf hr hlen hcv
  obtain ⟨R, hR⟩ : ∃ R, R = LastPost w B L cv lv (lastM ms cs n most c) most := ⟨_, rfl⟩
  rw [← hR]
  have HRR := Lib.hid hR
  clear hR
  go_enter Try.func33, Try.ntmps33
  go_wp2_with (first
    | refine wpList_loadEv0 rfl _ rfl w.heap.size rfl c (cells_all HX.out.heap) ?_
    | fail)
  refine (change_any c _ HT.out HF.out).mono ?_
  rw [HR.out]
  rintro e w1 ⟨bv, rfl, hown, hb⟩
  rw [if_pos rfl] at hown
  simp only [if_true]
  have HB1 := Lib.hid (HB0.out.trans (hb.mono HB0.out.size))
  have HX1 := Lib.hid (EvBox.mk ((hb.block _ (heap_lt HX.out.heap)).trans HX.out.heap))
  have HS1 := Lib.hid (H.out.below HB1.out)
  have HV := Lib.hid hown
  obtain ⟨p2, q2⟩ := cells_of_block HS1.out.sm.hd 2 (.pointer (some ⟨L.g, 0, none⟩)) rfl
  clear hown hb HX HB0
  have HK1 := Lib.hid (Keeps.of_below (F := L.all cv lv) HB1.out)
  by_cases hroom : most - n < needN (chE c).length
  · go_wp2_with fail
    refine (append_gen w1 B L.g lv n _ n most (cs.map chE) HS1.out.lg (parsed_encs HS1.out.good) bv (chE c) HV.out.isB.src (by have := HLEN.out; unfold maxLen; omega)).mono ?_
    have ha : appF most n (encs (cs.map chE) 0) (cs.map chE).length (chE c) = (7, n, encs (cs.map chE) 0) := by
      unfold appF; rw [if_neg (by have := HLEN.out; omega), if_pos hroom]
    rw [ha]
    rintro e w2 ⟨rfl, ⟨u, hl2⟩, hk⟩
    have hs2 : SM w2 B L cv ms cs := HS1.out.sm.kept fun i hi hm => hk.block i hi (HS1.out.sm.apart HS1.out.lg hm)
    have hk2 := HK1.out.trans (hk.mono (fun i _ hx => Or.inr hx))
    have HFIN := Lib.hid (show LastPost w B L cv lv (lastM ms cs n most c) most (.returned (.int .i64 7)) w2 by
      unfold lastM; rw [if_pos hroom]
      exact ⟨rfl, cv, u, ⟨hs2, hl2, HS1.out.ok, HS1.out.om, HS1.out.vr⟩, hk2⟩)
    clear hs2 hk2 hl2 hk ha hroom
    go_wp2
    try go_ret
    rw [HRR.out]
    exact HFIN.out
  · go_wp2_with fail
    refine (append_gen w1 B L.g lv n _ n most (cs.map chE) HS1.out.lg (parsed_encs HS1.out.good) bv (chE c) HV.out.isB.src (by have := HLEN.out; unfold maxLen; omega)).mono ?_
    have ha : appF most n (encs (cs.map chE) 0) (cs.map chE).length (chE c) = (0, n + needN (chE c).length, encs ((cs ++ [c]).map chE) 0) := by
      unfold appF; rw [if_neg (by have := HLEN.out; omega), if_neg hroom, encs_snoc]
    rw [ha]
    rintro e w2 ⟨rfl, ⟨u, hl2⟩, hk⟩
    have hs2 : SM w2 B L cv ms cs := HS1.out.sm.kept fun i hi hm => hk.block i hi (HS1.out.sm.apart HS1.out.lg hm)
    have HK2 := Lib.hid (HK1.out.trans (hk.mono (fun i _ hx => Or.inr hx)))
    have HX2 := Lib.hid (EvBox.mk (b := w.heap.size) (e := c) ((hk.block _ (heap_lt HX1.out.heap) (by
      rintro (hx | hx)
      · have := H.out.lg.lt.1; omega
      · have := (H.out.lg.lt.2 _ hx).2; omega)).trans HX1.out.heap))
    have HS2 := Lib.hid hs2
    have HL2 := Lib.hid hl2
    have hB2 : B ≤ w2.heap.size := Nat.le_trans hB HK2.out.size
    have HROOM := Lib.hid hroom
    clear hs2 hl2 hk ha p2 q2 hroom
    go_wp2_with (first
      | refine wpList_loadEv0 rfl _ rfl w.heap.size rfl c (cells_all HX2.out.heap) ?_
      | fail)
    refine (sdo_any w2 B L cv ms cs HS2.out c hl hB2).mono ?_
    rintro e w3 ⟨rfl, cv', hs3, hk3⟩
    have hl3 : LogAt w3 B L.g u (n + needN (chE c).length) (encs ((cs ++ [c]).map chE) 0) n most := HL2.out.kept fun i hi => hk3.block i (by rcases hi with rfl | hi; exact HL2.out.lt.1; exact (HL2.out.lt.2 i hi).2) (fun hm => HS2.out.apart HL2.out hm hi)
    have HS3 := Lib.hid hs3
    have HL3 := Lib.hid hl3
    have HK3 := Lib.hid (HK2.out.trans (hk3.mono (fun i _ hx => Or.inl hx)))
    obtain ⟨p3, q3⟩ := cells_of_block hs3.hd 2 (.pointer (some ⟨L.g, 0, none⟩)) rfl
    clear hs3 hl3 hk3
    go_wp2_with fail
    refine (sync_any w3 B L.g u _ _ n most HL3.out).mono ?_
    rintro e w4 ⟨rfl, hl4, hk4⟩
    have hs4 : SM w4 B L cv' (doM ms c) (cs ++ [c]) := HS3.out.kept fun i hi hm => hk4.block i hi (fun hx => HS3.out.apart HL3.out hm (.inl hx))
    have hk5 := HK3.out.trans (hk4.mono (G := L.all cv lv) (fun i _ hx => Or.inr (.inl hx)))
    have HFIN := Lib.hid (show LastPost w B L cv lv (lastM ms cs n most c) most (.returned (.int .i64 0)) w4 by
      unfold lastM; rw [if_neg HROOM.out]
      exact ⟨rfl, cv', u, ⟨hs4, hl4, fun x hx => by
        rcases List.mem_append.1 hx with hx | hx
        · exact H.out.ok x hx
        · simp at hx; subst hx; exact ⟨HT.out, HR.out⟩, fun x hx => by
        rcases do_mem hx with hx | hx
        · exact H.out.om x hx
        · rw [hx]; exact ⟨HT.out.obj, HR.out⟩, by rw [verS_snoc, HCV.out, H.out.vr]; simp⟩, hk5⟩)
    clear hs4 hk5 hl4 hk4 p3 q3
    go_wp2
    try go_ret
    rw [HRR.out]
    exact HFIN.out

end Go.Proofs.Ytobpohjhhelljaa
