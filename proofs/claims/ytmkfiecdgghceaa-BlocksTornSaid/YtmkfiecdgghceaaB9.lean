/- Layer 5 (blocks): a log's Clean. -/
import Derived.Test.YtmkfiecdgghceaaB8
namespace Go.Proofs.Ytmkfiecdgghceaa
open Go.RowKit
set_option linter.unusedVariables false
set_option linter.unusedSimpArgs false

open Go.Shelf
attribute [local go_sem] Oper.semAt_some

theorem records_any (x : Value) (w : World) (hx : ∃ o, x = .pointer o) : Calls Try.prog 31 #[x] w fun e w' => e = .returned (.func (.func 43) #[] #[.pointer (some ⟨w.heap.size, 0, none⟩)]) ∧ w' = w.alloc (.cells #[x] 31) := by
  obtain ⟨o, rfl⟩ := hx
  go_enter Try.func31, Try.ntmps31
  go_wp2
  go_ret
  exact ⟨rfl, rfl⟩

/-- what is asked of a caller's own state between the rounds: it stands in cells -/
structure CellsSame (W W' : World) : Prop where
  os : W'.os = W.os
  tape : W'.tape = W.tape
  output : W'.output = W.output
  size : W.heap.size ≤ W'.heap.size
  same : ∀ (k : Nat) (o : Go.Obj), W.heap[k]? = some o → Go.Obj.isCells o = true → W'.heap[k]? = some o
theorem CellsSame.of_below {W W' : World} (h : Below W.heap.size W W') : CellsSame W W' := ⟨h.os, h.tape, h.output, h.size, fun k o hk _ => (h.block k (heap_lt hk)).trans hk⟩
theorem CellsSame.putObj {W : World} {l : Nat} {o o' : Go.Obj} (h : W.heap[l]? = some o) (ho : o.isCells = false) : CellsSame W (W.putObj l o') :=
  ⟨rfl, rfl, rfl, by simp, fun k u hk hu => (World.putObj_heap_other (fun e => by subst e; rw [h] at hk; cases hk; rw [ho] at hu; cases hu)).trans hk⟩
theorem CellsSame.ownsRow {W W' : World} {B : Nat} {e : TypeId} {s : Nat} {v : Value} {n : Nat} {xs : List Value} (h : CellsSame W W') (hr : W.ownsRow B e s v n xs) : W'.ownsRow B e s v n xs := by
  obtain ⟨h1, h2 | ⟨g, cap, cur, rfl, e2, e3, e4⟩⟩ := hr
  · exact ⟨h1, .inl h2⟩
  · exact ⟨h1, .inr ⟨g, cap, cur, rfl, e2, h.same g _ e3 rfl, e4⟩⟩
theorem below_putObj {n : Nat} {w W : World} {l : Nat} {o' : Go.Obj} (h : Below n w W) (hl : n ≤ l) : Below n w (W.putObj l o') :=
  ⟨h.os, h.tape, h.output, by have := h.size; simpa using this, fun k hk => (World.putObj_heap_other (by omega)).trans (h.block k hk)⟩
theorem atR_putObj {x : Rc} {W : World} {l : Nat} {o o' : Go.Obj} (h : AtR x W) (hl : W.heap[l]? = some o) (ho : o.isCells = false) : AtR x (W.putObj l o') := by
  obtain ⟨h1, h2, h3⟩ := h
  refine ⟨h1, h2, fun k hk => ?_⟩
  have h4 := h3 k hk
  have hb : x.b ≠ l := fun e => by
    unfold World.cell? at h4
    simp only [e] at h4
    rw [hl] at h4
    cases o <;> simp_all [Go.Obj.isCells]
  exact (World.cell?_of_block (World.putObj_heap_other hb)).trans h4

def CleanPost (w : World) (B p : Nat) (v : Value) (rs : List Bs) (most : Nat) (e : Ending) (w' : World) : Prop :=
  e = .returned (.int .i64 0) ∧ ∃ u n', (encs rs 0).length = n' * 64 ∧ LogAt w' B p u n' (encs rs 0) n' most ∧ (∀ k, u.ownBlock = some k → w.heap.size ≤ k) ∧ Keeps (fun i => i = p) w w'
set_option maxHeartbeats 1000000 in
theorem clean_nil (w : World) : Calls Try.prog 23 #[.pointer none] w fun e w' => e = .returned (.int .i64 1) ∧ w' = w := by
  go_enter Try.func23, Try.ntmps23
  go_wp2
  go_ret
  exact ⟨rfl, rfl⟩

/-- the last block of what has come -/
def lastAt (xs : List Rc) : Nat := (xs.getLast?.map (·.at')).getD 0

set_option maxRecDepth 100000 in
set_option maxHeartbeats 2000000 in
theorem clean_any (w : World) (B p : Nat) (v : Value) (n : Nat) (bs : Bs) (last most : Nat) (rs : List Bs) (h : LogAt w B p v n bs last most) (hrs : Parsed bs rs) : Calls Try.prog 23 #[.pointer (some ⟨p, 0, none⟩)] w (CleanPost w B p v rs most) := by
  have H := Lib.hid h
  have HRS := Lib.hid hrs
  have hn := h.hn
  have hm := h.hm
  have hl := h.hl
  have hbl := Lib.hid h.row.1
  obtain ⟨a, c, rfl⟩ := h.lv
  have hnc := h.cap
  clear h hrs
  refine calls_of_wp_marks Try.func23 rfl ?_
  simp only [Try.ntmps23, List.size_toArray, List.length_cons, List.length_nil, Nat.reduceAdd, Nat.reduceSub, Array.replicate_succ, Array.replicate_zero, List.push_toArray, List.append_toArray, List.nil_append, List.cons_append]
  go_wp2_with (go_at_call 31; refine (records_any _ _ ⟨_, rfl⟩).mono ?_; rintro e w' ⟨rfl, rfl⟩)
  refine wp_range_all (gf := 43) (lb := #[.pointer (some ⟨w.heap.size + 1, 0, none⟩)]) rfl (enters_of Try.func43 (by kernel_rfl) rfl) 5000 encR (fun _ => rfl) AtR (AllR bs) (Keeps (fun i => ¬ (i < w.heap.size ∨ i = w.heap.size + 1)))
    (fun x W l o o' h hl ho => atR_putObj h hl ho) (fun h k => h.trans k) (fun W l o o' hl h ho => ⟨rfl, rfl, rfl, by simp, fun k hk hf => World.putObj_heap_other (by simp at hl; have := Classical.not_not.1 hf; omega)⟩)
    (fun pre W => W.heap[w.heap.size]? = some (.cells #[.int .i64 (lastAt pre : Nat)] 3 (0, 0)) ∧ Below w.heap.size w W)
    (fun pre W W' hI hb => ⟨(hb.block _ (heap_lt hI.1)).trans hI.1, hI.2.trans (hb.mono hI.2.size)⟩)
    (fun pre W l o o' hl hI h ho => ⟨(World.putObj_heap_other (by simp at hl; omega)).trans hI.1, below_putObj hI.2 (by simp at hl; omega)⟩)
    ⟨(heap_alloc_lt (by simp)).trans heap_alloc_eq, ((Below.refl _ w).alloc (Nat.le_refl _) _).alloc (by simp) _⟩ ?seq ?a1 ?assign ?body ?done
  case assign =>
    intro l x W K hK
    dsimp only [encR]
    gi_wp2
    exact hK
  case seq =>
    intro l J W hW hWs hJ hY h0
    have hW0 : Below w.heap.size w W := (((Below.refl _ w).alloc (Nat.le_refl _) _).alloc (by simp) _).trans (hW.mono (by simp; omega))
    exact rec1_any B p (.slice a n c) n bs last most (w.heap.size + 1) l W (H.out.below hW0) ((hW.block _ (by simp)).trans (by have := heap_alloc_eq (w := w.alloc (.cells #[.int .i64 0] 3)) (o := .cells #[.pointer (some ⟨p, 0, none⟩)] 31); simpa using this)) _ (.inl H.out.lt.1) (.inr rfl) (fun k hk => .inl (H.out.lt.2 k hk).2) J hJ hY h0
  case body =>
    rintro l pre x W hWs ⟨hc, hb⟩ hat hN
    obtain ⟨c0, f0⟩ := cells_of_block hc 0 (.int .i64 (lastAt pre : Nat)) rfl
    gi_wp2
    have hz : w.heap.size < W.heap.size := heap_lt hc
    refine ⟨KeepsOthers.setCell _ _ _, ⟨rfl, rfl, rfl, by simp [World.setCell], fun k hk hf => heap_setCell_ne (fun e => by have := Classical.not_not.1 hf; simp at e; omega)⟩, ?_, hb.setCell (p := ⟨w.heap.size, 0, none⟩) (Nat.le_refl _) _⟩
    rw [heap_setCell_same hc]
    simp [lastAt]
  case done =>
    rintro D xs W hD ⟨hP, hlast⟩ ⟨hc, hb⟩ hK
    have HLW := Lib.hid (H.out.below hb)
    obtain ⟨c0, f0⟩ := cells_of_block hc 0 (.int .i64 (lastAt xs : Nat)) rfl
    obtain ⟨c1, f1⟩ := cells_of_block HLW.out.cells 0 (.slice a n c) rfl
    have hds : xs.map (·.d) = rs := parsed_unique hP HRS.out
    have hM : (encs rs 0).length = lastAt xs * 64 := by
      rw [← hds]
      cases hx : xs.getLast? with
      | none =>
        have : xs = [] := by simpa using hx
        subst this
        simp [encs, lastAt]
      | some x => rw [← hlast x hx]; simp [lastAt, hx]
    have HM := Lib.hid hM
    obtain ⟨_, rest, hbs, _⟩ := HRS.out
    have HE := Lib.hid (show bs.take (lastAt xs * 64) = encs rs 0 by rw [← hM, hbs]; simp)
    have hMn : lastAt xs ≤ n := by
      have : (encs rs 0).length ≤ bs.length := by rw [hbs]; simp
      have := hbl.out
      omega
    have HD := Lib.hid hD
    have HB := Lib.hid hb
    have HK := Lib.hid hK
    have HLX := Lib.hid hlast
    generalize lastAt xs = M at *
    clear hbs hds hM hlast hP hc hb hK hD
    have hMc : M ≤ c := by omega
    have hpn : p ≠ w.heap.size := by have := H.out.lt.1; omega
    have HT := Lib.hid (show IsL W.drew (.slice a M c) M (bs.take (M * 64)) from (HLW.out.row.take hMn).below (Below.refl _ W).drew)
    have HC0 := Lib.hid c0
    have HC1 := Lib.hid (show W.drew.heap[p]? = some (.cells #[.slice a n c, .int .i64 (last : Int), .int .i64 (most : Int)] 58 (0, 0)) from HLW.out.cells)
    go_wp2
    refine wp_region_N (fun w' => (w'.cell? ⟨w.heap.size, 0, none⟩ = some (.int .i64 (M : Nat))))
      [(true, 0), (true, 1), (true, 2), (true, 3), (true, 5), (false, 4), (true, 6), (false, 7), (true, 8), (true, 9), (false, 10)] (by kernel_rfl) (by kernel_rfl) rfl (by kernel_rfl) ?_ ?_
    · exact (by first | go_keep | exact HC0.out | exact K0.out | exact (World.cell?_of_block (heap_setCell_ne (fun e => hpn e.symm))).trans K0.out)
    simp only [List.filterMap_cons, List.filterMap_nil, List.getElem?_cons_succ, List.getElem?_cons_zero, Option.map_some]
    apply wpSeq_takeK _ (by first | rfl | (simp [Region.wanted, yielded]; done))
    · intro w' hS
      have s0 := hS
      clear hS
      go_simp
      try rfl
    intro K hK
    go_simp
    refine hK _ ?_
    clear hK K
    apply wpSeq_takeK _ (by first | rfl | (simp [Region.wanted, yielded]; done))
    · intro w' hS
      have s0 := hS
      clear hS
      go_simp
      try rfl
    intro K hK
    go_simp
    refine hK _ ?_
    clear hK K
    apply wpSeq_takeK _ (by first | rfl | (simp [Region.wanted, yielded]; done))
    · intro w' hS
      have s0 := hS
      clear hS
      go_simp
      try rfl
    intro K hK
    go_simp
    refine hK _ ?_
    clear hK K
    apply wpSeq_takeK _ (by first | rfl | (simp [Region.wanted, yielded]; done))
    · intro w' hS
      have s0 := hS
      clear hS
      go_simp
      try rfl
    intro K hK
    go_simp
    refine hK _ ?_
    clear hK K
    apply wpSeq_takeK _ (by first | rfl | (simp [Region.wanted, yielded]; done))
    · intro w' hS
      have s0 := hS
      clear hS
      go_simp
      try rfl
    intro K hK
    go_simp
    refine hK _ ?_
    clear hK K
    refine wpSeq_alone ?_
    go_wp2
    refine QS_normal (by first | go_keep | exact HC0.out | exact K0.out | exact (World.cell?_of_block (heap_setCell_ne (fun e => hpn e.symm))).trans K0.out) (fun _ => ?_)
    apply wpSeq_takeK _ (by first | rfl | (simp [Region.wanted, yielded]; done))
    · intro w' hS
      have s0 := hS
      clear hS
      go_simp
      try rfl
    intro K hK
    go_simp
    refine hK _ ?_
    clear hK K
    refine wpSeq_alone ?_
    (go_wp2_with (go_at_call 34; refine (cloneL_any M (bs.take (M * 64)) _ _ (by omega) HT.out).mono ?_; rintro e w2 ⟨u, rfl, ho, hb⟩; obtain ⟨d0, g0⟩ := cells_of_block ((hb.block p (heap_lt HC1.out)).trans HC1.out) 0 _ rfl; obtain ⟨au, cu, rfl⟩ := ho.lv; have K0 := Lib.hid ((hb.cell (p := ⟨w.heap.size, 0, none⟩) (World.block_lt_of_cell? W _ HC0.out)).trans HC0.out); have HO := Lib.hid ho; have HB2 := Lib.hid hb; clear ho hb))
    refine QS_normal (by first | go_keep | exact HC0.out | exact K0.out | exact (World.cell?_of_block (heap_setCell_ne (fun e => hpn e.symm))).trans K0.out) (fun _ => ?_)
    apply wpSeq_takeK _ (by first | rfl | (simp [Region.wanted, yielded]; done))
    · intro w' hS
      have s0 := hS
      clear hS
      go_simp
      try rfl
    intro K hK
    go_simp
    refine hK _ ?_
    clear hK K
    apply wpSeq_takeK _ (by first | rfl | (simp [Region.wanted, yielded]; done))
    · intro w' hS
      have s0 := hS
      clear hS
      go_simp
      try rfl
    intro K hK
    go_simp
    refine hK _ ?_
    clear hK K
    refine wpSeq_alone ?_
    go_wp2
    refine QS_normal (by first | go_keep | exact HC0.out | exact K0.out | exact (World.cell?_of_block (heap_setCell_ne (fun e => hpn e.symm))).trans K0.out) (fun _ => ?_)
    refine wpSeq_end ?_
    go_wp2_with (go_at_call 18; refine (sync_core _ B p (.slice au M cu) M (bs.take (M * 64)) last most ?cl ⟨HO.out.1, ?rw⟩ H.out.base (by omega) hm).mono ?_)
    case cl =>
      rw [heap_setCell_same ((HB2.out.block p (heap_lt HC1.out)).trans HC1.out)]; rfl
    case rw =>
      refine ownsRow_of_heap (ownsRow_mono HO.out.2 (Nat.le_of_lt (Nat.lt_of_le_of_lt H.out.base (heap_lt HC1.out)))) fun k hk => heap_setCell_ne fun e => ?_
      have hke : k = p := e
      have h1 := (HO.out.2.lt k hk).1
      have h2 := heap_lt HC1.out
      omega
    rintro e w4 ⟨rfl, hlog, hkeep⟩
    have HL := Lib.hid hlog
    have HK4 := Lib.hid hkeep
    clear hlog hkeep d0 g0
    go_wp2
    have hD2 : w.heap.size + 2 ≤ D := by have := HD.out; simpa using this
    have hpD : p ≠ D := by have := H.out.lt.1; omega
    have hKD : w4.heap[D]? = some (.deferred (some [])) := by
      rw [HK4.out.block D (by have h1 := heap_lt HK.out; have h2 := HB2.out.size; simp [World.setCell]; exact Nat.lt_of_lt_of_le h1 h2) (fun e => hpD e.symm), heap_setCell_ne (fun e => hpD e.symm)]
      exact (HB2.out.block D (heap_lt HK.out)).trans HK.out
    refine marks_ret rfl hKD (fun w => results_tmp rfl _ _ _) ⟨rfl, .slice au M cu, M, HM.out, ?_, fun k hk => ?_, ?_⟩
    · have hu := HL.out.lt
      have hne : ∀ i, i = p ∨ (Value.slice au M cu).ownBlock = some i → (w4.putObj D (.deferred none)).heap[i]? = w4.heap[i]? := fun i hi => World.putObj_heap_other fun e => by
        subst e
        rcases hi with hi | hi
        · exact hpD hi.symm
        · have h1 := (HO.out.2.lt i hi).1
          have h2 := heap_lt HK.out
          have h3 : W.drew.heap.size = W.heap.size := rfl
          omega
      have := HL.out.kept hne
      rw [HE.out] at this
      exact this
    · have h1 := (HO.out.2.lt k hk).1
      have h2 := HB.out.size
      have h3 : W.drew.heap.size = W.heap.size := rfl
      omega
    · have k1 : Keeps (fun i => i = p) w w2 := ((Keeps.of_below HB.out).drew).trans ⟨HB2.out.os, HB2.out.tape, HB2.out.output, HB2.out.size, fun k hk _ => HB2.out.block k hk⟩
      have k2 := (k1.setCell (p := ⟨p, 0, none⟩) (fun _ => rfl) (.slice au M cu)).trans HK4.out
      exact ⟨k2.os, k2.tape, k2.output, by simpa using k2.size, fun k hk hf => (World.putObj_heap_other (by omega)).trans (k2.block k hk hf)⟩

end Go.Proofs.Ytmkfiecdgghceaa
