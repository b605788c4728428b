/- Layer 6 (store): Open of any log: the program's. -/
import Derived.Test.YtobpohjhhelljaaS8
import Derived.Test.YtobpohjhhelljaaR7
namespace Go.Proofs.Ytobpohjhhelljaa
open Go.RowKit
set_option linter.unusedVariables false
set_option linter.unusedSimpArgs false


/-- what records say -/
def openM : List Bs → List (GKey × Obj) → List Ev → Option (List (GKey × Obj) × List Ev)
  | [], ms, cs => some (ms, cs)
  | r :: rs, ms, cs => match readC r with
    | none => none
    | some c => if fitsM ms cs c = true then openM rs (doM ms c) (cs ++ [c]) else none
theorem OwnB.srcS {w : World} {B : Nat} {v : Value} {l : Bs} (h : OwnB w B v l) : SrcB w w.heap.size v l :=
  .inl ⟨h.isB, fun b e => by
    obtain ⟨_, ⟨rfl, _⟩ | ⟨g, cap, cur, rfl, _, hg, _⟩⟩ := h
    · simp [blk] at e
    · simp [blk] at e; subst e; exact heap_lt hg⟩
/-- what the loop keeps -/
structure OL (w wr : World) (L : SLoc) (lv : Value) (n most : Nat) (rs : List Bs) (B4 : Nat) (u : Value) (j : Nat) (cv : Value) (ms : List (GKey × Obj)) (cs : List Ev) : Prop where
  sm : SM wr w.heap.size L cv ms cs
  lg : LogAt wr w.heap.size L.g lv n (encs rs 0) n most
  rw : OwnRows wr B4 u rs
  bl : Below w.heap.size w wr
  eq : openM rs [] [] = openM (rs.drop j) ms cs
  mp : cs.map chE = rs.take j
  vr : verS cs = (j : Int)
  cl : cs.length = j
  ml : ms.length ≤ j
  ok : ∀ e ∈ cs, e.Typed ∧ rightB e.obj = true
  om : ∀ x ∈ ms, x.2.Typed ∧ rightB x.2 = true
theorem OL.below {w wr wy : World} {L : SLoc} {lv : Value} {n most : Nat} {rs : List Bs} {B4 : Nat} {u : Value} {j : Nat} {cv : Value} {ms : List (GKey × Obj)} {cs : List Ev} (h : OL w wr L lv n most rs B4 u j cv ms cs) (hb : Below wr.heap.size wr wy) : OL w wy L lv n most rs B4 u j cv ms cs :=
  ⟨h.sm.below hb, h.lg.below hb, h.rw.kept fun k _ hk => hb.block k hk, h.bl.trans (hb.mono h.bl.size), h.eq, h.mp, h.vr, h.cl, h.ml, h.ok, h.om⟩
theorem OwnRows.keptT {w w' : World} {B : Nat} {v : Value} {rs : List Bs} (h : OwnRows w B v rs) (hk : ∀ k cs t fr, k < w.heap.size → w.heap[k]? = some (.cells cs t fr) → (t = 41 ∨ t = 5) → w'.heap[k]? = w.heap[k]?) : OwnRows w' B v rs := by
  obtain ⟨vs, h1, h2, h3⟩ := h
  refine ⟨vs, h1, ownsRow_of_heap h2 fun k hx => ?_, fun i a b => ownsRow_of_heap (h3 i a b) fun k hx => ?_⟩
  · obtain ⟨cs, fr, hc⟩ := ownsRow_cells h2 hx
    exact hk k cs _ fr (heap_lt hc) hc (.inl rfl)
  · obtain ⟨cs, fr, hc⟩ := ownsRow_cells (h3 i a b) hx
    exact hk k cs _ fr (heap_lt hc) hc (.inr rfl)
theorem put_len (l : List (GKey × Obj)) (k : GKey) (o : Obj) : (assocPut l k o).length ≤ l.length + 1 := by
  unfold assocPut
  split
  · simp
  · simp
theorem del_len (l : List (GKey × Obj)) (k : GKey) : (assocDel l k).length ≤ l.length := by
  unfold assocDel
  split
  · exact List.length_eraseIdx_le _ _
  · exact Nat.le_refl _
theorem do_len (ms : List (GKey × Obj)) (c : Ev) : (doM ms c).length ≤ ms.length + 1 := by
  unfold doM
  split
  · have := del_len ms (keyO c.obj); omega
  · exact put_len _ _ _
theorem fits_version {ms : List (GKey × Obj)} {cs : List Ev} {c : Ev} (h : fitsM ms cs c = true) : c.version = verS cs + 1 := by
  unfold fitsM at h
  by_cases h1 : c.version = verS cs + 1
  · exact h1
  · rw [if_pos h1] at h; cases h
/-- Open's answer -/
def OpenPost (w : World) (rs : List Bs) (most : Nat) (e : Ending) (w' : World) : Prop := Below w.heap.size w w' ∧
  match openM rs [] [] with
  | none => e = .returned (.pointer none)
  | some (ms, cs) => ∃ L cv lv n, e = .returned (.pointer (some ⟨L.p, 0, none⟩)) ∧ (encs rs 0).length = n * 64 ∧ SA w' w.heap.size L cv lv ms cs n most ∧ ms.length ≤ cs.length

set_option maxRecDepth 100000 in
set_option maxHeartbeats 4000000 in
theorem open_any (w : World) (B p : Nat) (v : Value) (n0 : Nat) (bs : Bs) (last most : Nat) (rs : List Bs) (h : LogAt w B p v n0 bs last most) (hrs : Parsed bs rs) : Calls Try.prog 31 #[.pointer (some ⟨p, 0, none⟩)] w (OpenPost w rs most) := by
  have hmm := @run_makeMap Try.prog
  have hZE := evZ_cells
  simp only [noText] at hZE
  have HZE := Lib.hid hZE
  have H := Lib.hid h
  have HP := Lib.hid hrs
  clear h hrs hZE
  obtain ⟨R, hR⟩ : ∃ R, R = OpenPost w rs most := ⟨_, rfl⟩
  rw [← hR]
  have HRR := Lib.hid hR
  clear hR
  go_enter Try.func31, Try.ntmps31
  go_wp2_with fail
  have hb0 : Below w.heap.size w (w.alloc (.map #[] 0)) := (Below.refl _ _).alloc (Nat.le_refl _) _
  refine (fork_any _ B p v n0 bs last most (H.out.below hb0)).mono ?_
  rintro e w1 ⟨q, u, rfl, hl, hb⟩
  have HL1 := Lib.hid hl
  have HB1 := Lib.hid (hb0.trans (hb.mono hb0.size))
  have HM1 := Lib.hid ((hb.block w.heap.size (by simp)).trans (heap_alloc_eq (w := w) (o := .map #[] 0)))
  clear hl hb hb0
  obtain ⟨W2, hW2⟩ : ∃ W2, W2 = w1.alloc (.cells #[.map (some w.heap.size), .slice none 0 0, .pointer (some ⟨q, 0, none⟩)] 75) := ⟨_, rfl⟩
  have hb2 : Below w1.heap.size w1 W2 := hW2 ▸ (Below.refl _ _).alloc (Nat.le_refl _) _
  have hp2 : W2.heap[w1.heap.size]? = some (.cells #[.map (some w.heap.size), .slice none 0 0, .pointer (some ⟨q, 0, none⟩)] 75 (0, 0)) := by rw [hW2]; exact heap_alloc_eq
  have HL2 := Lib.hid (HL1.out.below hb2)
  have HB2 := Lib.hid (HB1.out.trans (hb2.mono HB1.out.size))
  have HM2 := Lib.hid ((hb2.block _ (heap_lt HM1.out)).trans HM1.out)
  have HP2 := Lib.hid hp2
  obtain ⟨p2, q2⟩ := cells_of_block hp2 2 (.pointer (some ⟨q, 0, none⟩)) rfl
  have hq1 := HL1.out.lt.1
  have hqw := HL1.out.base
  have hs1 := HB1.out.size
  rw [World.size_alloc] at hqw
  have HW2 := Lib.hid hW2
  clear hb2 hp2 hW2
  go_upto_region 4 with fail
  rw [← HW2.out]
  go_wp2_with fail
  refine (clean_any W2 _ q u n0 bs last most rs HL2.out HP.out).mono ?_
  rintro e w3 ⟨rfl, lv2, n', hn', hl3, _, hk3⟩
  have HN := Lib.hid hn'
  have HL3 := Lib.hid hl3
  have hp3 := (hk3.block _ (heap_lt HP2.out) (by omega)).trans HP2.out
  have HM3 := Lib.hid ((hk3.block _ (heap_lt HM2.out) (by omega)).trans HM2.out)
  have HP3 := Lib.hid hp3
  have HB3 := Lib.hid ((Keeps.of_below (F := fun i => i = q) HB2.out).trans hk3 |>.below (fun i hi hx => by omega))
  obtain ⟨p3, q3⟩ := cells_of_block hp3 2 (.pointer (some ⟨q, 0, none⟩)) rfl
  clear hn' hl3 hk3 hp3 p2 q2
  go_wp2_with fail
  refine (records_log w3 _ q lv2 n' _ n' most rs HL3.out (parsed_encs HP.out.1)).mono ?_
  rintro e w4 ⟨u3, rfl, hrows, hb4⟩
  have hcnt := count_le HP.out.1 0
  have hnm := HL3.out.hn
  have hm4 := HL3.out.hm
  have hrl : rs.length ≤ 4096 := by have := HN.out; omega
  have hOL : OL w w4 ⟨w1.heap.size, w.heap.size, q⟩ lv2 n' most rs w3.heap.size u3 0 (.slice none 0 0) [] [] :=
    ⟨⟨(hb4.block _ (heap_lt HP3.out)).trans HP3.out, ⟨#[], 0, (hb4.block _ (heap_lt HM3.out)).trans HM3.out, MapRep.nil _⟩, World.ownsRow_nil _ _ _ _, hs1, Nat.le_refl _⟩, (HL3.out.below hb4).lower (by rw [World.size_alloc]; omega), hrows, HB3.out.trans (hb4.mono HB3.out.size), rfl, rfl, rfl, rfl, Nat.le_refl _, by simp, by simp⟩
  have HOL := Lib.hid hOL
  obtain ⟨a, c, rfl⟩ := hrows.lv
  generalize hB4 : w3.heap.size = B4 at *
  generalize hwp : w1.heap.size = wp at *
  clear hrows hb4 p3 q3 hOL hcnt hnm hm4 HL3 HM3 HP3 HB3 hB4 HL2 HB2 HM2 HP2 HW2
  go_wp2
  go_loopw [26] (fun i wr => ∃ (j : Nat) (cv : Value) (ms : List (GKey × Obj)) (cs : List Ev), j ≤ rs.length ∧ i = .int .i64 j ∧ Hid (OL w wr ⟨wp, w.heap.size, q⟩ lv2 n' most rs B4 (.slice a rs.length c) j cv ms cs)) (fun i _ => rs.length - (intOf i).toNat)
  case atStart => exact ⟨0, _, _, _, Nat.zero_le _, rfl, HOL⟩
  case round =>
    obtain ⟨j, cv, ms, cs, hj, rfl, hO⟩ := hrel
    by_cases hjl : j < rs.length
    · obtain ⟨vs, hvl, hrow, hel⟩ := hO.out.rw
      have hr' := hrow
      obtain ⟨_, ⟨_, h0⟩ | ⟨g, cap, cur, he, _, hg, hle, hmx, _⟩⟩ := hrow
      · omega
      · simp only [Value.slice.injEq, true_and] at he
        obtain ⟨rfl, rfl⟩ := he
        have hc := World.ownsRow.cellAt hr' j (by omega)
        have hjv : j < vs.length := by omega
        rw [List.getElem?_eq_getElem hjv] at hc
        have hown := hel j hjl hjv
        obtain ⟨sa, sc, hsv⟩ := hown.lv
        rw [hsv] at hc hown
        have HOWN := Lib.hid hown
        have hjl' : (j : Int) < rs.length := by omega
        have hdrop : rs.drop j = rs[j] :: rs.drop (j + 1) := List.drop_eq_getElem_cons hjl
        have htake : rs.take (j + 1) = rs.take j ++ [rs[j]] := by rw [List.take_add_one, List.getElem?_eq_getElem hjl]; rfl
        have HDT := Lib.hid (And.intro hdrop htake)
        clear hr' hel hg hle hmx hdrop htake hsv hown
        generalize hrj : rs[j] = r at *
        go_wp2_with fail
        refine (readC_any _ r wr HOWN.out.srcS).mono ?_
        rintro e w5 ⟨rfl, hb⟩
        cases hd : readC r with
        | none =>
          have HD := Lib.hid hd
          simp only [Option.getD_none, Option.isSome_none, Bool.false_eq_true, if_false]
          clear hd
          obtain ⟨W6, hW6⟩ : ∃ W, W = Wset (w5.alloc (.cells (cellsEv evZ) 69)) w5.heap.size (.cells (cellsEv evZ) 69 (0, 0)) := ⟨_, rfl⟩
          have hbn := below_new w5 (.cells (cellsEv evZ) 69) (.cells (cellsEv evZ) 69 (0, 0))
          have hnb := new_box w5 (.cells (cellsEv evZ) 69) (cellsEv evZ) 69
          rw [← hW6] at hbn hnb
          have hq : (w5.alloc (.cells (cellsEv evZ) 69)).heap[w5.heap.size]? = some (.cells (cellsEv evZ) 69 (0, 0)) := heap_alloc_eq
          conv at hq => lhs; rw [HZE.out]
          have HQ := Lib.hid hq
          have HW6 := Lib.hid hW6
          have HO6 := Lib.hid ((hO.out.below hb).below hbn)
          have HX6 := Lib.hid (EvBox.mk hnb)
          clear hbn hnb hq hW6 hb hO HOWN hc
          generalize hX : w5.heap.size = X at *
          go_wp2_with (first
            | (refine wpList_storeEv rfl _ _ rfl X rfl evZ evZ rfl HQ.out ?_; rw [← HZE.out, ← HW6.out])
            | fail)
          try go_ret
          rw [HRR.out]
          refine ⟨HO6.out.bl, ?_⟩
          rw [HO6.out.eq, HDT.out.1]
          simp only [openM, HD.out]
          rfl
        | some c2 =>
          have HD := Lib.hid hd
          obtain ⟨hrc, hct, hcr⟩ := readC_some hd
          have HRC := Lib.hid (And.intro hrc (And.intro hct hcr))
          simp only [Option.getD_some, Option.isSome_some, if_true]
          clear hd hrc hct hcr
          obtain ⟨W6, hW6⟩ : ∃ W, W = Wset (w5.alloc (.cells (cellsEv evZ) 69)) w5.heap.size (.cells (cellsEv c2) 69 (0, 0)) := ⟨_, rfl⟩
          have hbn := below_new w5 (.cells (cellsEv evZ) 69) (.cells (cellsEv c2) 69 (0, 0))
          have hnb := new_box w5 (.cells (cellsEv evZ) 69) (cellsEv c2) 69
          rw [← hW6] at hbn hnb
          have hq : (w5.alloc (.cells (cellsEv evZ) 69)).heap[w5.heap.size]? = some (.cells (cellsEv evZ) 69 (0, 0)) := heap_alloc_eq
          conv at hq => lhs; rw [HZE.out]
          have HQ := Lib.hid hq
          have HW6 := Lib.hid hW6
          have HO6 := Lib.hid ((hO.out.below hb).below hbn)
          have HX6 := Lib.hid (EvBox.mk hnb)
          clear hbn hnb hq hW6 hb hO HOWN hc
          generalize hX : w5.heap.size = X at *
          go_wp2_with (first
            | (refine wpList_storeEv rfl _ _ rfl X rfl c2 evZ rfl HQ.out ?_; rw [← HZE.out, ← HW6.out])
            | refine wpList_loadEvG (by first | rfl | (simp [Region.wanted, yielded]; done)) _ rfl X rfl c2 (cells_all HX6.out.heap) ?_
            | fail)
          have hvr := HO6.out.vr
          have hml := HO6.out.ml
          refine (sfits_any W6 _ _ cv ms cs HO6.out.sm c2 (by omega) (by omega)).mono ?_
          rintro e w7 ⟨rfl, hb⟩
          cases hf : fitsM ms cs c2 with
          | false =>
            have HO7 := Lib.hid (HO6.out.below hb)
            have HF := Lib.hid hf
            clear hf hb hvr hml
            go_wp2
            try go_ret
            rw [HRR.out]
            refine ⟨HO7.out.bl, ?_⟩
            rw [HO7.out.eq, HDT.out.1]
            simp only [openM, HD.out, HF.out, Bool.false_eq_true, if_false]
            rfl
          | true =>
            have HO7 := Lib.hid (HO6.out.below hb)
            have HX7 := Lib.hid (EvBox.mk ((hb.block _ (heap_lt HX6.out.heap)).trans HX6.out.heap))
            have HF := Lib.hid hf
            clear hf hb hvr hml
            go_wp2_with (first
              | refine wpList_loadEv0 rfl _ rfl X rfl c2 (cells_all HX7.out.heap) ?_
              | fail)
            have hcl := HO7.out.cl
            refine (sdo_any w7 _ _ cv ms cs HO7.out.sm c2 (by omega) HO7.out.bl.size).mono ?_
            rintro e w8 ⟨rfl, cv', hs8, hk8⟩
            have hlg8 := HO7.out.lg.kept (w' := w8) fun i hi => hk8.block i (by rcases hi with rfl | hi; exact HO7.out.lg.lt.1; exact (HO7.out.lg.lt.2 i hi).2) (fun hm => HO7.out.sm.apart HO7.out.lg hm hi)
            have hrw8 := HO7.out.rw.keptT (w' := w8) fun k ks t fr hk hc ht => hk8.block k hk (by
              obtain ⟨es9, c9, hm9, _⟩ := HO7.out.sm.mp
              rintro (hx | hx | hx)
              · rw [hx, HO7.out.sm.hd] at hc; rcases ht with rfl | rfl <;> cases hc
              · rw [hx, hm9] at hc; cases hc
              · obtain ⟨_, _, h9⟩ := ownsRow_cells HO7.out.sm.ch hx
                rw [h9] at hc; rcases ht with rfl | rfl <;> cases hc)
            have hbl8 : Below w.heap.size w w8 := ((Keeps.of_below (F := fun i => w.heap.size ≤ i) HO7.out.bl).trans (hk8.mono fun i _ hx => (HO7.out.sm.mine_lo hx).1)).below (fun i hi hx => by omega)
            have hcv := fits_version HF.out
            have HO8 := Lib.hid (show OL w w8 ⟨wp, w.heap.size, q⟩ lv2 n' most rs B4 (.slice (some ⟨g, 0, none⟩) rs.length c) (j + 1) cv' (doM ms c2) (cs ++ [c2]) from
              ⟨hs8, hlg8, hrw8, hbl8, by rw [HO7.out.eq, HDT.out.1]; simp only [openM, HD.out, HF.out, if_true], by rw [HDT.out.2, List.map_append, HO7.out.mp, HRC.out.1]; rfl, by rw [verS_snoc, hcv, HO7.out.vr]; push_cast; rfl, by simp [hcl], by have := do_len ms c2; have := HO7.out.ml; omega,
                fun x hx => by
                  rcases List.mem_append.1 hx with hx | hx
                  · exact HO7.out.ok x hx
                  · simp at hx; subst hx; exact HRC.out.2,
                fun x hx => by
                  rcases do_mem hx with hx | hx
                  · exact HO7.out.om x hx
                  · rw [hx]; exact ⟨HRC.out.2.1.obj, HRC.out.2.2⟩⟩)
            clear hs8 hk8 hlg8 hrw8 hbl8 hcv hcl
            go_wp2
            refine ⟨⟨j + 1, cv', doM ms c2, cs ++ [c2], by omega, by simp, HO8⟩, by simp [intOf]; omega⟩
    · have hje : j = rs.length := by omega
      subst hje
      go_wp2
      try go_ret
      have he := hO.out.eq
      rw [List.drop_length] at he
      have hmp := hO.out.mp
      rw [List.take_length] at hmp
      have hlg := hO.out.lg
      rw [← hmp] at hlg
      rw [HRR.out]
      refine ⟨hO.out.bl, ?_⟩
      rw [he]
      exact ⟨⟨wp, w.heap.size, q⟩, cv, lv2, n', rfl, HN.out, ⟨hO.out.sm, hlg, hO.out.ok, hO.out.om, by rw [hO.out.vr, hO.out.cl]⟩, by rw [hO.out.cl]; exact hO.out.ml⟩

end Go.Proofs.Ytobpohjhhelljaa
