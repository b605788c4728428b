/- Layer 6 (store): Crash: the program's. -/
import Derived.Test.YtobpohjhhelljaaS9
namespace Go.Proofs.Ytobpohjhhelljaa
open Go.RowKit
set_option linter.unusedVariables false
set_option linter.unusedSimpArgs false


/-- the log behind what is begun: how many blocks, their bytes -/
def begunM (ms : List (GKey × Obj)) (cs : List Ev) (n most : Nat) (o : Obj) : Nat × Bs :=
  if (changeM ms cs o).1 = 0 then (appF most n (encs (cs.map chE) 0) (cs.map chE).length (chE (changeM ms cs o).2)).2 else (n, encs (cs.map chE) 0)
/-- Crash's answer, where keep and torn are such as may be -/
def CrashP (w : World) (B : Nat) (L : SLoc) (cv lv : Value) (ms : List (GKey × Obj)) (cs : List Ev) (n most : Nat) (rs : List Bs) (e : Ending) (w' : World) : Prop :=
  e = .returned (.int .i64 0) ∧
  match openM rs [] [] with
  | none => SA w' B L cv lv ms cs n most ∧ Below w.heap.size w w'
  | some (ms', cs') => ∃ L' cv' lv' n', L'.p = L.p ∧ SA w' B L' cv' lv' ms' cs' n' most ∧ ms'.length ≤ cs'.length ∧ Keeps (fun i => i = L.p) w w'

set_option maxRecDepth 100000 in
set_option maxHeartbeats 4000000 in
theorem scrash_any (w : World) (B : Nat) (L : SLoc) (cv lv : Value) (ms : List (GKey × Obj)) (cs : List Ev) (n most : Nat) (h : SA w B L cv lv ms cs n most) (o : Obj) (ht : o.Typed) (hf : o.Fits) (hl : cs.length ≤ 100000) (hms : ms.length ≤ 1000000) (hB : B ≤ w.heap.size)
    (keep torn : Int) (hk : 0 ≤ keep ∧ keep ≤ 9223372036854775807) (hto : 0 ≤ torn ∧ torn ≤ 64) (rs : List Bs) (hrs : Parsed (crashB (begunM ms cs n most o).2 (begunM ms cs n most o).1 n keep torn).2 rs) :
    Calls Try.prog 10 #[.pointer (some ⟨L.p, 0, none⟩), .agg (cellsO o), .int .i64 keep, .int .i64 torn] w (CrashP w B L cv lv ms cs n most rs) := by
  have hZE := evZ_cells
  simp only [noText] at hZE
  have HZE := Lib.hid hZE
  clear hZE
  obtain ⟨R, hR⟩ : ∃ R, R = CrashP w B L cv lv ms cs n most rs := ⟨_, rfl⟩
  rw [← hR]
  have HRR := Lib.hid hR
  clear hR
  obtain ⟨W0, hW0⟩ : ∃ W0, W0 = w.alloc (.cells (cellsO o) 31) := ⟨_, rfl⟩
  have hb0 : Below w.heap.size w W0 := hW0 ▸ (Below.refl _ w).alloc (Nat.le_refl _) _
  have hox : W0.heap[w.heap.size]? = some (.cells (cellsO o) 31 (0, 0)) := by rw [hW0]; exact heap_alloc_eq
  have HW0 := Lib.hid hW0
  have HOX := Lib.hid hox
  have HB0 := Lib.hid hb0
  have H := Lib.hid h
  have HT := Lib.hid ht
  have HF := Lib.hid hf
  have HRS := Lib.hid hrs
  have HVR := Lib.hid h.vr
  have hS0 := h.below hb0
  obtain ⟨p2, q2⟩ := cells_of_block hS0.sm.hd 2 (.pointer (some ⟨L.g, 0, none⟩)) rfl
  have HS0 := Lib.hid hS0
  obtain ⟨C, hC⟩ : ∃ C, C = changeM ms cs o := ⟨_, rfl⟩
  have HC := Lib.hid hC
  clear hW0 hox hb0 h ht hf hrs hS0 hC
  go_enter Try.func10, Try.ntmps10
  go_upto_region 3 with fail
  rw [← HW0.out]
  go_wp2_with fail
  refine (fork_any W0 B L.g lv n _ n most HS0.out.lg).mono ?_
  rintro e w1 ⟨q, u1, rfl, hl1, hb1⟩
  have HL1 := Lib.hid hl1
  have HB1 := Lib.hid (HB0.out.trans (hb1.mono HB0.out.size))
  have HS1 := Lib.hid (HS0.out.below hb1)
  have HO1 := Lib.hid ((hb1.block _ (heap_lt HOX.out)).trans HOX.out)
  have hs0 := HB0.out.size
  clear hl1 hb1 p2 q2 HOX
  go_wp2_with (first
    | refine wpList_loadObj rfl _ rfl w.heap.size rfl o (cells_all HO1.out) ?_
    | fail)
  refine (schange_any w1 B L cv ms cs HS1.out.sm o HF.out (by rw [HVR.out]; omega) hms).mono ?_
  rintro e w2 ⟨rfl, hb⟩
  rw [← HC.out]
  obtain ⟨W3, hW3⟩ : ∃ W, W = Wset (w2.alloc (.cells (cellsEv evZ) 69)) w2.heap.size (.cells (cellsEv C.2) 69 (0, 0)) := ⟨_, rfl⟩
  have hbn := below_new w2 (.cells (cellsEv evZ) 69) (.cells (cellsEv C.2) 69 (0, 0))
  have hnb := new_box w2 (.cells (cellsEv evZ) 69) (cellsEv C.2) 69
  rw [← hW3] at hbn hnb
  have hq : (w2.alloc (.cells (cellsEv evZ) 69)).heap[w2.heap.size]? = some (.cells (cellsEv evZ) 69 (0, 0)) := heap_alloc_eq
  conv at hq => lhs; rw [HZE.out]
  have hb3 := hb.trans (hbn.mono hb.size)
  have HL3 := Lib.hid (HL1.out.below hb3)
  have HB3 := Lib.hid (HB1.out.trans (hb3.mono HB1.out.size))
  have HX3 := Lib.hid (EvBox.mk hnb)
  have HQ := Lib.hid hq
  have HW3 := Lib.hid hW3
  clear hbn hnb hq hW3 hb hb3 HO1 HL1 HS1
  generalize hX : w2.heap.size = X at *
  -- the log with what is begun
  go_upto_region 5 with (first
    | (refine wpList_storeEv rfl _ _ rfl X rfl C.2 evZ rfl HQ.out ?_; rw [← HZE.out, ← HW3.out])
    | fail)
  go_upto_if 30 with fail
  have hqs := HL3.out.lt.1
  have hqb := HL3.out.base
  go_cut [] (fun wx => ∃ uv, Hid (LogAt wx w.heap.size q uv (begunM ms cs n most o).1 (begunM ms cs n most o).2 n most) ∧ Hid (Below w.heap.size w wx))
  case first =>
    by_cases herr : C.1 = 0
    · obtain ⟨hrt, hC2⟩ := change_ok (ms := ms) (cs := cs) (o := o) (by rw [← HC.out]; exact herr)
      rw [← HC.out] at hC2
      have hvb : 0 ≤ verS cs + 1 ∧ verS cs + 1 < 18446744073709551616 := by rw [HVR.out]; omega
      have hct : C.2.Typed := by rw [hC2]; exact ⟨hvb, newO_typed HT.out H.out.om _ hvb⟩
      have hcf : C.2.obj.Fits := by rw [hC2]; exact newO_fits HF.out _ _
      have hcr : rightB C.2.obj = true := by rw [hC2]; exact hrt
      have H5 := Lib.hid (And.intro hct (And.intro hcf hcr))
      have hlen := Lib.hid (chE_len hct hcr)
      have hbm : begunM ms cs n most o = (appF most n (encs (cs.map chE) 0) (cs.map chE).length (chE C.2)).2 := by unfold begunM; rw [← HC.out, if_pos herr]
      have HBM := Lib.hid hbm
      have herr' : (C.1 == 0) = true := by simpa using herr
      clear hrt hC2 hvb hct hcf hcr hbm herr
      go_wp2_with (first
        | refine wpList_loadEv0 rfl _ rfl X rfl C.2 (cells_all HX3.out.heap) ?_
        | fail)
      refine (change_any C.2 _ H5.out.1 H5.out.2.1).mono ?_
      rw [H5.out.2.2]
      rintro e w4 ⟨bv, rfl, hown, hb⟩
      rw [if_pos rfl] at hown
      simp only [if_true]
      have HL4 := Lib.hid (HL3.out.below hb)
      have HB4 := Lib.hid (HB3.out.trans (hb.mono HB3.out.size))
      have HV := Lib.hid hown
      clear hown hb
      go_wp2_with fail
      refine (append_gen w4 _ q u1 n _ n most (cs.map chE) HL4.out (parsed_encs H.out.good) bv (chE C.2) HV.out.isB.src (by have := hlen.out; unfold maxLen; omega)).mono ?_
      rintro e w5 ⟨rfl, ⟨uv, hl5⟩, hk5⟩
      rw [← HBM.out] at hl5
      have hb5 : Below w.heap.size w w5 := ((Keeps.of_below (F := fun i => w.heap.size ≤ i) HB4.out).trans (hk5.mono fun i _ hx => by
        rcases hx with hx | hx
        · omega
        · have := (HL4.out.lt.2 i hx).1; omega)).below (fun i hi hx => by omega)
      have HFIN := Lib.hid (And.intro (hl5.lower hs0) hb5)
      clear hl5 hk5 hb5
      go_wp2_with fail
      go_meet
      exact ⟨uv, Lib.hid HFIN.out.1, Lib.hid HFIN.out.2⟩
    · have hbm : begunM ms cs n most o = (n, encs (cs.map chE) 0) := by unfold begunM; rw [← HC.out, if_neg herr]
      have herr' : (C.1 == 0) = false := by simpa using herr
      have HFIN := Lib.hid (show LogAt W3 w.heap.size q u1 (begunM ms cs n most o).1 (begunM ms cs n most o).2 n most by rw [hbm]; exact HL3.out.lower hs0)
      clear hbm
      go_wp2_with fail
      go_meet
      exact ⟨u1, HFIN, HB3⟩
  case rest =>
    obtain ⟨uv, HL6, HB6⟩ := hcut
    clear HL3 HB3 HX3 HQ HW3
    obtain ⟨n6, hn6⟩ : ∃ n6, n6 = (begunM ms cs n most o).1 := ⟨_, rfl⟩
    obtain ⟨bs6, hbs6⟩ : ∃ bs6, bs6 = (begunM ms cs n most o).2 := ⟨_, rfl⟩
    rw [← hn6, ← hbs6] at HL6 HRS
    clear hn6 hbs6
    go_wp2_with fail
    refine (crash_gen wc _ q uv n6 bs6 n most HL6.out keep torn hk.2).mono ?_
    have hcr : crF n6 n bs6 keep torn = (0, (crashB bs6 n6 n keep torn).1, (crashB bs6 n6 n keep torn).2, (crashB bs6 n6 n keep torn).1) := by unfold crF; rw [if_neg (by omega)]
    rw [hcr]
    rintro e w7 ⟨rfl, ⟨uz, hl7⟩, hk7⟩
    have hb7 : Below w.heap.size w w7 := ((Keeps.of_below (F := fun i => w.heap.size ≤ i) HB6.out).trans (hk7.mono fun i _ hx => by
      rcases hx with hx | hx
      · omega
      · have := (HL6.out.lt.2 i hx).1; omega)).below (fun i hi hx => by omega)
    have HL7 := Lib.hid hl7
    have HB7 := Lib.hid hb7
    clear hl7 hk7 hb7 hcr
    go_wp2_with fail
    refine (open_any w7 _ q uz _ _ _ most rs HL7.out HRS.out).mono ?_
    cases ho : openM rs [] [] with
    | none =>
      unfold OpenPost
      rw [ho]
      rintro e w8 ⟨hb8, rfl⟩
      have HB8 := Lib.hid (HB7.out.trans (hb8.mono HB7.out.size))
      have HO := Lib.hid ho
      clear hb8 ho
      go_wp2
      try go_ret
      rw [HRR.out]
      refine ⟨rfl, ?_⟩
      rw [HO.out]
      exact ⟨H.out.below HB8.out, HB8.out⟩
    | some r =>
      obtain ⟨ms', cs'⟩ := r
      unfold OpenPost
      rw [ho]
      rintro e w8 ⟨hb8, Lx, cvx, lvx, nx, rfl, _, hsx, hmx⟩
      have HB8 := Lib.hid (HB7.out.trans (hb8.mono HB7.out.size))
      have HS8 := Lib.hid (H.out.below HB8.out)
      obtain ⟨xa, xk, hxv, _⟩ := OwnE.evs hsx.sm.ch
      subst hxv
      have HSX := Lib.hid hsx
      have HMX := Lib.hid hmx
      have HO := Lib.hid ho
      obtain ⟨a0, a1⟩ := cells_of_block HS8.out.sm.hd 0 (.map (some L.m)) rfl
      obtain ⟨a2, a3⟩ := cells_of_block HS8.out.sm.hd 1 cv rfl
      obtain ⟨a4, a5⟩ := cells_of_block HS8.out.sm.hd 2 (.pointer (some ⟨L.g, 0, none⟩)) rfl
      obtain ⟨x0, x1⟩ := cells_of_block hsx.sm.hd 0 (.map (some Lx.m)) rfl
      obtain ⟨x2, x3⟩ := cells_of_block hsx.sm.hd 1 (.slice xa cs'.length xk) rfl
      obtain ⟨x4, x5⟩ := cells_of_block hsx.sm.hd 2 (.pointer (some ⟨Lx.g, 0, none⟩)) rfl
      clear hb8 hsx hmx ho
      go_wp2
      try go_ret
      have hpl := H.out.sm.lt.1
      have hs7 := HB7.out.size
      have hlox := HSX.out.sm.lo
      obtain ⟨es9, c9, hm9, hr9⟩ := HSX.out.sm.mp
      have h1 := heap_setCell_same (o := 0) (v := .map (some Lx.m)) HS8.out.sm.hd
      have h2 := heap_setCell_same (o := 1) (v := .slice xa cs'.length xk) h1
      have h3 := heap_setCell_same (o := 2) (v := .pointer (some ⟨Lx.g, 0, none⟩)) h2
      obtain ⟨w9, hw9⟩ : ∃ w9, w9 = ((w8.setCell ⟨L.p, 0, none⟩ (.map (some Lx.m))).setCell ⟨L.p, 1, none⟩ (.slice xa cs'.length xk)).setCell ⟨L.p, 2, none⟩ (.pointer (some ⟨Lx.g, 0, none⟩)) := ⟨_, rfl⟩
      rw [← hw9] at h3 ⊢
      have hne : ∀ k, k ≠ L.p → w9.heap[k]? = w8.heap[k]? := fun k hk => by
        rw [hw9]
        exact (heap_setCell_ne (a := ⟨L.p, 2, none⟩) hk).trans ((heap_setCell_ne (a := ⟨L.p, 1, none⟩) hk).trans (heap_setCell_ne (a := ⟨L.p, 0, none⟩) hk))
      rw [HRR.out]
      refine ⟨rfl, ?_⟩
      rw [HO.out]
      refine ⟨⟨L.p, Lx.m, Lx.g⟩, .slice xa cs'.length xk, lvx, nx, rfl, ⟨⟨h3, ⟨es9, c9, (hne Lx.m (by omega)).trans hm9, hr9⟩, ownsRow_mono (ownsRow_of_heap HSX.out.sm.ch fun k hkk => hne k (by have := (HSX.out.sm.ch.lt k hkk).1; omega)) (by omega), H.out.sm.lo.1, by show B ≤ Lx.m; omega⟩, ((HSX.out.lg.kept fun k hkk => hne k (by
        rcases hkk with rfl | hkk
        · have := HSX.out.lg.base; omega
        · have := (HSX.out.lg.lt.2 k hkk).1; omega)).lower (by omega)), HSX.out.ok, HSX.out.om, HSX.out.vr⟩, HMX.out, ?_⟩
      rw [hw9]
      exact (((Keeps.of_below (F := fun i => i = L.p) HB8.out).setCell (p := ⟨L.p, 0, none⟩) (fun _ => rfl) _).setCell (p := ⟨L.p, 1, none⟩) (fun _ => rfl) _).setCell (p := ⟨L.p, 2, none⟩) (fun _ => rfl) _

end Go.Proofs.Ytobpohjhhelljaa
