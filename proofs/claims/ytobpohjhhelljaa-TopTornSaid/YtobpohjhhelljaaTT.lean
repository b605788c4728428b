/- TopTorn: the walk. -/
import Derived.Test.YtobpohjhhelljaaP3
import Derived.Test.YtobpohjhhelljaaS14
import Derived.Test.YtobpohjhhelljaaOs
import Derived.Deep.CutBlock
namespace Go.Proofs.Ytobpohjhhelljaa
open Go.RowKit
set_option linter.unusedVariables false
set_option linter.unusedSimpArgs false


/-- a class of a name -/
def clsO (s : ByteArray) : Obj := ⟨1, s, 0, 0, false, false, noText, 0, 0, 0, false, false, noText, noText, noText, noText, noText, 0, 0, 0⟩
theorem clsO_typed (s : ByteArray) : (clsO s).Typed := ⟨by simp [clsO], by simp [clsO], by simp [clsO], by simp [clsO], by simp [clsO], by simp [clsO], by simp [clsO]⟩
theorem clsO_fits {s : ByteArray} (h : s.size ≤ maxLen) : (clsO s).Fits := ⟨h, fun t ht => by
  simp [textsO, clsO] at ht
  subst ht
  exact Nat.zero_le _⟩
theorem clsO_cells (s : ByteArray) : cellsO (clsO s) = #[.int .u8 1, .string s, .int .u64 0, .int .u64 0, .bool false, .bool false, .string ⟨#[]⟩, .int .i64 0, .int .i64 0, .int .u8 0, .bool false, .bool false, .string ⟨#[]⟩, .string ⟨#[]⟩, .string ⟨#[]⟩, .string ⟨#[]⟩, .string ⟨#[]⟩, .int .u8 0, .int .u64 0, .int .u64 0] := by simp [cellsO, clsO, noText]

/-- what the loop of puts keeps -/
structure TL (w wr : World) (B : Nat) (L : SLoc) (cv lv : Value) (ms : List (GKey × Obj)) (cs : List Ev) (n j : Nat) : Prop where
  sa : SA wr B L cv lv ms cs n 400
  ag : Again ms cs
  ml : ms.length ≤ j
  cl : cs.length ≤ j
  vs : ∀ x ∈ ms, 1 ≤ x.2.version
  ks : ∀ x ∈ ms, x.1 = keyO x.2
  bl : Below w.heap.size w wr
  lo : B ≤ wr.heap.size ∧ w.heap.size ≤ B
theorem put_typed {ms : List (GKey × Obj)} {cs : List Ev} {o : Obj} (ht : o.Typed) (hm : ∀ x ∈ ms, x.2.Typed ∧ rightB x.2 = true) (hv : verS cs = cs.length) (hl : cs.length ≤ 100000) (h : (changeM ms cs o).1 = 0) : (changeM ms cs o).2.Typed ∧ rightB (changeM ms cs o).2.obj = true := by
  obtain ⟨hrt, hC2⟩ := change_ok h
  rw [hC2]
  have hvb : 0 ≤ verS cs + 1 ∧ verS cs + 1 < 18446744073709551616 := by omega
  exact ⟨⟨hvb, newO_typed ht hm _ hvb⟩, hrt⟩
theorem TL.put {w wr wy : World} {B : Nat} {L : SLoc} {cv lv cv' lv' : Value} {ms : List (GKey × Obj)} {cs : List Ev} {n j : Nat} {o : Obj} (h : TL w wr B L cv lv ms cs n j) (ht : o.Typed) (hj : j ≤ 1000) (hs : SA wy B L cv' lv' (putM ms cs n 400 o).2.2.1 (putM ms cs n 400 o).2.2.2.1 (putM ms cs n 400 o).2.2.2.2 400) (hk : Keeps (L.all cv lv) wr wy) : TL w wy B L cv' lv' (putM ms cs n 400 o).2.2.1 (putM ms cs n 400 o).2.2.2.1 (putM ms cs n 400 o).2.2.2.2 (j + 1) := by
  have hcl := h.cl
  have hml := h.ml
  have hvr := h.sa.vr
  have hb := h.sa.keep hk h.lo.1
  refine ⟨hs, h.ag.put fun he => (put_typed ht h.sa.om hvr (by omega) he).1, ?_, ?_, ?_, ?_, h.bl.trans (hb.mono h.lo.2), ⟨Nat.le_trans h.lo.1 hk.size, h.lo.2⟩⟩
  · unfold putM
    split
    · split
      · simp only; omega
      · have := do_len ms (changeM ms cs o).2; simp only; omega
    · simp only; omega
  · unfold putM
    split
    · split
      · simp only; omega
      · simp; omega
    · simp only; omega
  · unfold putM
    split
    · rename_i he
      split
      · exact h.vs
      · intro x hx
        rcases do_mem hx with hx | hx
        · exact h.vs x hx
        · rw [hx, (change_ok he).2]
          simp [newO]; omega
    · exact h.vs
  · unfold putM
    split
    · rename_i he
      split
      · exact h.ks
      · intro x hx
        simp only at hx
        rw [(change_ok he).2] at hx
        unfold doM at hx
        simp only [Bool.false_eq_true, if_false] at hx
        rcases put_mem hx with hx | hx
        · exact h.ks x hx
        · rw [hx]
    · exact h.ks

/-- the store, its fork behind a put, and the box of what was put -/
structure TS (w wx : World) (B : Nat) (L : SLoc) (cv lv : Value) (ms : List (GKey × Obj)) (cs : List Ev) (n B2 : Nat) (L2 : SLoc) (cv2 lv2 : Value) (ms2 : List (GKey × Obj)) (cs2 : List Ev) (n2 bx : Nat) (po : Obj) : Prop where
  sa : SA wx B L cv lv ms cs n 400
  fa : SA wx B2 L2 cv2 lv2 ms2 cs2 n2 400
  box : wx.heap[bx]? = some (.cells (cellsO po) 31 (0, 0))
  lo : B ≤ wx.heap.size ∧ w.heap.size ≤ B ∧ B2 ≤ bx ∧ L.p < B2
  bl : Below w.heap.size w wx
theorem TS.below {w wx wy : World} {B : Nat} {L : SLoc} {cv lv : Value} {ms : List (GKey × Obj)} {cs : List Ev} {n B2 : Nat} {L2 : SLoc} {cv2 lv2 : Value} {ms2 : List (GKey × Obj)} {cs2 : List Ev} {n2 bx : Nat} {po : Obj} (h : TS w wx B L cv lv ms cs n B2 L2 cv2 lv2 ms2 cs2 n2 bx po) (hb : Below wx.heap.size wx wy) : TS w wy B L cv lv ms cs n B2 L2 cv2 lv2 ms2 cs2 n2 bx po :=
  ⟨h.sa.below hb, h.fa.below hb, (hb.block _ (heap_lt h.box)).trans h.box, ⟨Nat.le_trans h.lo.1 hb.size, h.lo.2⟩, below_then h.bl hb⟩
/-- behind the crash: what is only read -/
structure TU (w wx : World) (B : Nat) (L : SLoc) (cv : Value) (ms : List (GKey × Obj)) (cs : List Ev) (B2 : Nat) (L2 : SLoc) (cv2 : Value) (ms2 : List (GKey × Obj)) (cs2 : List Ev) (bx : Nat) (po : Obj) : Prop where
  sm : SM wx B L cv ms cs
  fm : SM wx B2 L2 cv2 ms2 cs2
  box : wx.heap[bx]? = some (.cells (cellsO po) 31 (0, 0))
  bl : Below w.heap.size w wx
theorem TU.below {w wx wy : World} {B : Nat} {L : SLoc} {cv : Value} {ms : List (GKey × Obj)} {cs : List Ev} {B2 : Nat} {L2 : SLoc} {cv2 : Value} {ms2 : List (GKey × Obj)} {cs2 : List Ev} {bx : Nat} {po : Obj} (h : TU w wx B L cv ms cs B2 L2 cv2 ms2 cs2 bx po) (hb : Below wx.heap.size wx wy) : TU w wy B L cv ms cs B2 L2 cv2 ms2 cs2 bx po :=
  ⟨h.sm.below hb, h.fm.below hb, (hb.block _ (heap_lt h.box)).trans h.box, below_then h.bl hb⟩
theorem TS.crash {w wx wy : World} {B : Nat} {L L' : SLoc} {cv lv cv' : Value} {ms ms' : List (GKey × Obj)} {cs cs' : List Ev} {n B2 : Nat} {L2 : SLoc} {cv2 lv2 : Value} {ms2 : List (GKey × Obj)} {cs2 : List Ev} {n2 bx : Nat} {po : Obj} (h : TS w wx B L cv lv ms cs n B2 L2 cv2 lv2 ms2 cs2 n2 bx po) (hs : SM wy B L' cv' ms' cs') (hk : Keeps (fun i => i = L.p) wx wy) : TU w wy B L' cv' ms' cs' B2 L2 cv2 ms2 cs2 bx po := by
  have hl := h.lo
  have hp := h.sa.sm.lo.1
  refine ⟨hs, h.fa.sm.kept fun i hi hm => hk.block i hi (fun e => ?_), (hk.block _ (heap_lt h.box) (by omega)).trans h.box, ((Keeps.of_below (F := fun i => w.heap.size ≤ i) h.bl).trans (hk.mono fun i _ hx => by omega)).below (fun i hi hx => by omega)⟩
  have := (h.fa.sm.mine_lo hm).1
  omega
theorem one_app : (appF (8 : Int).toNat 0 [] ([] : List Bs).length [1]).1 = 0 := by decide +kernel

set_option maxRecDepth 100000 in
set_option maxHeartbeats 4000000 in
theorem torn_walk (sa : Option Addr) (sl sc n0 : Nat) (more : ByteArray) (x y : Int) (w : World) (hA : ArgS w w.heap.size (.slice sa sl sc) n0) (hmo : more.size ≤ maxLen) (hx : 0 ≤ x ∧ x ≤ 255) (hy : 0 ≤ y ∧ y ≤ 255) :
    Calls Try.prog 3 #[.slice sa sl sc, .string more, .agg #[.int .u8 x, .int .u8 y]] w fun e w' => e = .returned (.bool true) ∧ Below w.heap.size w w' := by
  have HCL := Lib.hid clsO_cells
  have hZ := objZ_cells
  simp only [noText] at hZ
  have HZ := Lib.hid hZ
  clear hZ
  obtain ⟨_, _, h1, hle, hmx, hel⟩ := hA
  simp only [Value.slice.injEq] at h1
  obtain ⟨rfl, rfl, rfl⟩ := h1
  have HEL := Lib.hid hel
  have HMO := Lib.hid hmo
  have HXY := Lib.hid (And.intro hx hy)
  unfold maxLen at hmx
  have hb0 : Below w.heap.size w (w.alloc (.cells #[.int .u8 x, .int .u8 y] 23)) := (Below.refl _ _).alloc (Nat.le_refl _) _
  obtain ⟨W0, hW0⟩ : ∃ W0, W0 = w.alloc (.cells #[.int .u8 x, .int .u8 y] 23) := ⟨_, rfl⟩
  have hbx : W0.heap[w.heap.size]? = some (.cells #[.int .u8 x, .int .u8 y] 23 (0, 0)) := by rw [hW0]; exact heap_alloc_eq
  obtain ⟨x0, _⟩ := cells_of_block hbx 0 (.int .u8 x) rfl
  obtain ⟨x1, _⟩ := cells_of_block hbx 1 (.int .u8 y) rfl
  rw [← hW0] at hb0
  have HB0 := Lib.hid hb0
  have HSZ0 := Lib.hid (show W0.heap.size = w.heap.size + 1 by rw [hW0]; simp)
  have HW0 := Lib.hid hW0
  clear hel hmo hb0 hW0 hbx
  go_enter Try.func3, Try.ntmps3
  go_upto_region 1 with fail
  rw [← HW0.out]
  go_still (by kernel_rfl)
  go_wp2_with fail
  refine (snew_any _ 400 (by omega) (by omega)).mono ?_
  rintro e w1 ⟨L, cv, lv, rfl, hs, hb⟩
  generalize hBq : W0.drew.heap.size = B at hs
  have hBw : w.heap.size ≤ B := by rw [← hBq]; show _ ≤ W0.heap.size; rw [HSZ0.out]; omega
  have hT : TL w w1 B L cv lv [] [] 0 0 := ⟨hs, Again.nil, Nat.le_refl _, Nat.le_refl _, by simp, by simp, below_then HB0.out.drew hb, ⟨by rw [← hBq]; exact hb.size, hBw⟩⟩
  have HT := Lib.hid hT
  clear hs hb hT hBq HB0
  go_upto_block 0 with fail
  go_cut [] (fun wx => ∃ cv lv ms cs n j, j ≤ 20 ∧ Hid (TL w wx B L cv lv ms cs n j))
  case first =>
    go_wp2
    go_loopw [10] (fun i wr => ∃ (j : Nat) (cv lv : Value) (ms : List (GKey × Obj)) (cs : List Ev) (n : Nat), j ≤ 20 ∧ i = .int .i64 j ∧ Hid (TL w wr B L cv lv ms cs n j)) (fun i _ => 20 - (intOf i).toNat)
    case atStart => exact ⟨0, _, _, _, _, _, by omega, rfl, HT⟩
    case round =>
      obtain ⟨j, cv, lv, ms, cs, n, hj, rfl, HT⟩ := hrel
      by_cases h1 : j < sl
      · by_cases h2 : j < 20
        · obtain ⟨b, o, rfl, hbw, hcs⟩ := HEL.out (by omega)
          obtain ⟨s, hsc, hsl⟩ := hcs j h1
          have hsc2 := (HT.out.bl.cell (p := ⟨b, o + j, none⟩) hbw).trans hsc
          have HSL := Lib.hid hsl
          have h1' : (j : Int) < sl := by omega
          have h2' : (j : Int) < 20 := by omega
          have hcl := HT.out.cl
          have hml := HT.out.ml
          clear hcs hsc hsl
          go_wp2_with fail
          rw [← HCL.out]
          refine (sput_any wr B L cv lv ms cs n 400 HT.out.sa (clsO s) (clsO_typed s) (clsO_fits HSL.out) (by omega) (by omega) HT.out.lo.1).mono ?_
          rintro e w2 ⟨rfl, cv', lv', hs, hk⟩
          have HT2 := Lib.hid (HT.out.put (clsO_typed s) (by omega) hs hk)
          clear hs hk HT
          go_wp2
          refine ⟨⟨j + 1, cv', lv', _, _, _, by omega, by simp, HT2⟩, by simp [intOf]; omega⟩
        · have h1' : (j : Int) < sl := by omega
          have h2' : ¬ (j : Int) < 20 := by omega
          go_wp2
          go_meet
          exact ⟨_, _, _, _, _, _, hj, HT⟩
      · have h1' : ¬ (j : Int) < sl := by omega
        go_wp2
        go_meet
        exact ⟨_, _, _, _, _, _, hj, HT⟩
  case rest =>
    obtain ⟨cv, lv, ms, cs, n, j, hj, HT⟩ := hcut
    have hcl := HT.out.cl
    have hml := HT.out.ml
    go_wp2_with fail
    refine (sfork_any wc B L cv lv ms cs n 400 HT.out.sa (by omega)).mono ?_
    rintro e w2 ⟨L2, cv2, lv2, ms2, rfl, hs2, hp2, hb2⟩
    obtain ⟨P, hP⟩ : ∃ P, P = putM ms2 cs n 400 (clsO more) := ⟨_, rfl⟩
    have hlen2 := hp2.length_eq
    have HS2 := Lib.hid hs2
    have HB2 := Lib.hid hb2
    have HP := Lib.hid hP
    have HPM := Lib.hid hp2
    clear hs2 hb2 hP hp2
    go_wp2_with fail
    rw [← HCL.out]
    refine (sput_any w2 wc.heap.size L2 cv2 lv2 ms2 cs n 400 HS2.out (clsO more) (clsO_typed more) (clsO_fits HMO.out) (by omega) (by omega) HB2.out.size).mono ?_
    rw [← HP.out]
    rintro e w3 ⟨rfl, cv3, lv3, hs3, hk3⟩
    have hsa3 : SA w3 B L cv lv ms cs n 400 := (HT.out.sa.below HB2.out).kept fun i hi hx => hk3.block i hi (fun hy => by
      have h1 := (HS2.out.all_lo hy).1
      have h2 := (HT.out.sa.all_lo hx).2
      omega)
    have hpl := HT.out.sa.sm.lt.1
    have hb3 : Below w.heap.size w w3 := ((Keeps.of_below (F := fun i => w.heap.size ≤ i) (below_then HT.out.bl HB2.out)).trans (hk3.mono fun i _ hx => by
      have h1 := (HS2.out.all_lo hx).1
      have h2 := HT.out.bl.size
      omega)).below (fun i hi hx => by omega)
    have hs23 := hk3.size
    have hsc2 := HB2.out.size
    obtain ⟨W4, hW4⟩ : ∃ W, W = Wset (w3.alloc (.cells (cellsO objZ) 31)) w3.heap.size (.cells (cellsO P.2.1) 31 (0, 0)) := ⟨_, rfl⟩
    have hbn := below_new w3 (.cells (cellsO objZ) 31) (.cells (cellsO P.2.1) 31 (0, 0))
    have hnb := new_box w3 (.cells (cellsO objZ) 31) (cellsO P.2.1) 31
    rw [← hW4] at hbn hnb
    have hq : (w3.alloc (.cells (cellsO objZ) 31)).heap[w3.heap.size]? = some (.cells (cellsO objZ) 31 (0, 0)) := heap_alloc_eq
    conv at hq => lhs; rw [HZ.out]
    have hts : TS w W4 B L cv lv ms cs n wc.heap.size L2 cv3 lv3 P.2.2.1 P.2.2.2.1 P.2.2.2.2 w3.heap.size P.2.1 := ⟨hsa3.below hbn, hs3.below hbn, hnb, ⟨Nat.le_trans HT.out.lo.1 (Nat.le_trans HB2.out.size (Nat.le_trans hs23 hbn.size)), HT.out.lo.2, by omega, hpl⟩, below_then hb3 hbn⟩
    have HTS := Lib.hid hts
    have HQ := Lib.hid hq
    have HW := Lib.hid hW4
    clear hsa3 hb3 hs3 hk3 hbn hnb hq hW4 hts
    generalize hbx : w3.heap.size = bx at *
    generalize hB2 : wc.heap.size = B2 at *
    obtain ⟨V, hV⟩ : ∃ V, V = verS cs := ⟨_, rfl⟩
    have hVn : V = (cs.length : Int) := hV.trans HT.out.sa.vr
    go_upto_region 9 with (first
      | (refine wpList_storeObj rfl _ _ rfl bx rfl P.2.1 rfl _ HQ.out rfl ?_; rw [← HZ.out, ← HW.out])
      | fail)
    go_wp2_with fail
    refine (sversion_any W4 B L cv ms cs HTS.out.sa.sm).mono ?_
    rw [← hV]
    rintro e w5 ⟨rfl, hb⟩
    have HTS5 := Lib.hid (HTS.out.below hb)
    have HV := Lib.hid hV
    clear hb hV
    go_wp2_with fail
    rw [← HCL.out]
    -- the crash
    have hd := HTS5.out.sa
    have hag := HT.out.ag
    obtain ⟨rs, hpar, hrs⟩ := crash_parsedG (ms := ms) (cs := cs) (n := n) (most := 400) (o := clsO more) (keep := x % 4) (torn := y % 65) hd.good hd.lg.row.1 (by omega) (by omega) (by omega) (by omega) (fun he => put_typed (clsO_typed more) hd.om hd.vr (by omega) he)
    refine (scrash_any w5 B L cv lv ms cs n 400 hd (clsO more) (clsO_typed more) (clsO_fits HMO.out) (by omega) (by omega) HTS5.out.lo.1 (x % 4) (y % 65) (by omega) (by omega) rs hpar).mono ?_
    have hpm := putM_perm (HPM.out) hd.sm.keys cs n 400 (clsO more)
    rw [← HP.out] at hpm
    unfold CrashP
    have HPM2 := Lib.hid hpm
    have HVR := Lib.hid hd.vr
    clear hpm
    rcases hrs with rfl | ⟨he, hroom, rfl⟩
    · rw [show openM (cs.map chE) [] [] = some (ms, cs) from hag]
      rintro e w6 ⟨rfl, L', cv', lv', n', hLp, hs6, hm6, hk6⟩
      have hU6 := HTS5.out.crash hs6.sm hk6
      obtain ⟨lp, lm, lg⟩ := L'
      simp only at hLp
      subst hLp
      have HU6 := Lib.hid hU6
      clear hU6 hs6 hm6 hk6 hpar hd
      go_wp2_with fail
      refine (new_any 8 w6 (by omega) (by omega)).mono ?_
      rintro e w7 ⟨p0, rfl, hl7, hb7⟩
      have HL7 := Lib.hid hl7
      have HB7 := Lib.hid hb7
      have HB8 := Lib.hid (show Below w7.heap.size w7 (w7.alloc (.cells #[.int .u8 1] 5)) from (Below.refl _ _).alloc (Nat.le_refl _) _)
      have HSR := Lib.hid (show Src (w7.alloc (.cells #[.int .u8 1] 5)) (.slice (some ⟨w7.heap.size, 0, none⟩) 1 1) [1] from ⟨_, _, rfl, Nat.le_refl _, by decide, fun _ => ⟨_, _, rfl, fun k hk => by
        obtain rfl : k = 0 := by simp at hk; exact hk
        exact (cells_of_block heap_alloc_eq 0 (.int .u8 1) rfl).1⟩⟩)
      clear hl7 hb7
      go_wp2_with fail
      refine (append_gen (w7.alloc (.cells #[.int .u8 1] 5)) w6.heap.size p0 (.slice none 0 0) 0 [] 0 (8 : Int).toNat [] (HL7.out.below HB8.out) parsed_nil _ [1] HSR.out (by decide)).mono ?_
      rw [one_app]
      rintro e w8 ⟨rfl, _, hk8⟩
      have hb68 : Below w6.heap.size w6 w8 := ((Keeps.of_below (F := fun i => w6.heap.size ≤ i) (below_then HB7.out HB8.out)).trans (hk8.mono fun i _ hx => by
        rcases hx with hx | hx
        · rw [hx]; exact HL7.out.base
        · simp [Value.ownBlock] at hx)).below (fun i hi hx => by omega)
      have HU8 := Lib.hid (HU6.out.below hb68)
      clear hb68 hk8 HU6 HL7 HB7 HB8 HSR
      go_wp2_with fail
      refine (sversion_any w8 B _ cv' ms cs HU8.out.sm).mono ?_
      rw [← HV.out]
      rintro e w9 ⟨rfl, hb⟩
      have HU9 := Lib.hid (HU8.out.below hb)
      clear hb HU8
      go_wp2_with fail
      have HK := Lib.hid (show (P.1 = 0 → (assoc ms ⟨1, more⟩).isSome = false ∧ (assoc P.2.2.1 ⟨1, more⟩).isSome = true) from fun h0 => by
        rw [HPM2.out.1] at h0
        have hc : (changeM ms cs (clsO more)).1 = 0 := by
          unfold putM at h0
          split at h0
          · assumption
          · exact absurd h0 (by assumption)
        have hver : ((assoc ms ⟨1, more⟩).getD objZ).version = 0 := by
          unfold changeM at hc
          split at hc
          · simp at hc
          · split at hc
            · simp at hc
            · rename_i h2
              exact Classical.not_not.1 h2
        constructor
        · cases ha : assoc ms ⟨1, more⟩ with
          | none => rfl
          | some o =>
            rw [ha] at hver
            have h1 := HT.out.vs _ ((assoc_iff HTS5.out.sa.sm.keys).1 ha)
            simp at hver h1
            omega
        · have hc2 : (changeM ms2 cs (clsO more)).1 = 0 := by rw [changeM_perm HPM.out HTS5.out.sa.sm.keys]; exact hc
          have hr2 : ¬ 400 - n < needN (chE (changeM ms2 cs (clsO more)).2).length := fun hx => by
            rw [← HPM2.out.1, HP.out] at h0
            unfold putM at h0
            rw [if_pos hc2, if_pos hx] at h0
            simp at h0
          have e1 : P.2.2.1 = doM ms2 (changeM ms2 cs (clsO more)).2 := by
            rw [HP.out]
            unfold putM
            rw [if_pos hc2, if_neg hr2]
          rw [e1, (change_ok hc2).2]
          unfold doM
          simp only [Bool.false_eq_true, if_false]
          rw [show keyO (newO (clsO more) (assoc ms2 (keyO (clsO more))) (verS cs + 1)) = ⟨1, more⟩ from rfl, assoc_put]
          simp)
      refine (sget_any w9 B _ cv' ms cs HU9.out.sm ⟨1, more⟩).mono ?_
      obtain ⟨G, hG⟩ : ∃ G, G = (assoc ms ⟨1, more⟩).getD objZ := ⟨_, rfl⟩
      obtain ⟨gs, hgs⟩ : ∃ gs, gs = (assoc ms ⟨1, more⟩).isSome := ⟨_, rfl⟩
      rw [← hG, ← hgs]
      rw [← hgs] at HK
      rintro e wA ⟨rfl, hb⟩
      have HUA := Lib.hid (HU9.out.below hb)
      clear hb hG hgs HU9
      obtain ⟨WB, hWB⟩ : ∃ W, W = Wset (wA.alloc (.cells (cellsO objZ) 31)) wA.heap.size (.cells (cellsO G) 31 (0, 0)) := ⟨_, rfl⟩
      have hbn1 := below_new wA (.cells (cellsO objZ) 31) (.cells (cellsO G) 31 (0, 0))
      have hnb1 := new_box wA (.cells (cellsO objZ) 31) (cellsO G) 31
      rw [← hWB] at hbn1 hnb1
      have hq1 : (wA.alloc (.cells (cellsO objZ) 31)).heap[wA.heap.size]? = some (.cells (cellsO objZ) 31 (0, 0)) := heap_alloc_eq
      conv at hq1 => lhs; rw [HZ.out]
      have HQ1 := Lib.hid hq1
      have HW1 := Lib.hid hWB
      have HNB1 := Lib.hid hnb1
      have HBN1 := Lib.hid hbn1
      clear hWB hbn1 hnb1 hq1
      have HUB := Lib.hid (HUA.out.below HBN1.out)
      go_wp2_with (first
        | (refine wpList_storeObj rfl _ _ rfl wA.heap.size rfl G rfl _ HQ1.out rfl ?_; rw [← HZ.out, ← HW1.out])
        | fail)
      refine (sget_any WB B2 L2 cv3 P.2.2.1 P.2.2.2.1 HUB.out.fm ⟨1, more⟩).mono ?_
      obtain ⟨G2, hG2⟩ : ∃ G, G = (assoc P.2.2.1 ⟨1, more⟩).getD objZ := ⟨_, rfl⟩
      obtain ⟨gf, hgf⟩ : ∃ gs, gs = (assoc P.2.2.1 ⟨1, more⟩).isSome := ⟨_, rfl⟩
      rw [← hG2, ← hgf]
      rw [← hgf] at HK
      rintro e wC ⟨rfl, hb⟩
      have HUC := Lib.hid (HUB.out.below hb)
      clear hb hG2 hgf
      obtain ⟨WD, hWD⟩ : ∃ W, W = Wset (wC.alloc (.cells (cellsO objZ) 31)) wC.heap.size (.cells (cellsO G2) 31 (0, 0)) := ⟨_, rfl⟩
      have hbn2 := below_new wC (.cells (cellsO objZ) 31) (.cells (cellsO G2) 31 (0, 0))
      have hnb2 := new_box wC (.cells (cellsO objZ) 31) (cellsO G2) 31
      rw [← hWD] at hbn2 hnb2
      have hq2 : (wC.alloc (.cells (cellsO objZ) 31)).heap[wC.heap.size]? = some (.cells (cellsO objZ) 31 (0, 0)) := heap_alloc_eq
      conv at hq2 => lhs; rw [HZ.out]
      have HQ2 := Lib.hid hq2
      have HW2 := Lib.hid hWD
      have HNB2 := Lib.hid hnb2
      have HBN2 := Lib.hid hbn2
      clear hWD hbn2 hnb2 hq2
      have HUD := Lib.hid (HUC.out.below HBN2.out)
      go_wp2_with (first
        | (refine wpList_storeObj rfl _ _ rfl wC.heap.size rfl G2 rfl _ HQ2.out rfl ?_; rw [← HZ.out, ← HW2.out])
        | fail)
      refine (ssince0_any WD B _ cv' ms cs HUD.out.sm (by omega)).mono ?_
      rintro e wE ⟨v, rfl, hown, hb⟩
      obtain ⟨va, vk, rfl, _⟩ := OwnE.evs hown
      have HBE := Lib.hid (below_then HUD.out.bl hb)
      have hi64 : IntKind.i64.wrap (cs.length : Int) = cs.length := by simp [IntKind.wrap, IntKind.bits, IntKind.signed]; omega
      clear hown hb
      by_cases hP1 : P.1 = 0
      · obtain ⟨rfl, rfl⟩ := HK.out hP1
        go_wp2
        go_ret
        exact ⟨rfl, HBE.out⟩
      · go_wp2
        go_ret
        exact ⟨rfl, HBE.out⟩
    · have hag2 := hag.step (put_typed (clsO_typed more) hd.om hd.vr (by omega) he).1 (put_typed (clsO_typed more) hd.om hd.vr (by omega) he).2 (change_fits he)
      rw [show openM ((cs ++ [(changeM ms cs (clsO more)).2]).map chE) [] [] = _ from hag2]
      rintro e w6 ⟨rfl, L', cv', lv', n', hLp, hs6, hm6, hk6⟩
      have hU6 := HTS5.out.crash hs6.sm hk6
      obtain ⟨lp, lm, lg⟩ := L'
      simp only at hLp
      subst hLp
      have HU6 := Lib.hid hU6
      clear hU6 hs6 hm6 hk6 hpar hd
      go_wp2_with fail
      refine (new_any 8 w6 (by omega) (by omega)).mono ?_
      rintro e w7 ⟨p0, rfl, hl7, hb7⟩
      have HL7 := Lib.hid hl7
      have HB7 := Lib.hid hb7
      have HB8 := Lib.hid (show Below w7.heap.size w7 (w7.alloc (.cells #[.int .u8 1] 5)) from (Below.refl _ _).alloc (Nat.le_refl _) _)
      have HSR := Lib.hid (show Src (w7.alloc (.cells #[.int .u8 1] 5)) (.slice (some ⟨w7.heap.size, 0, none⟩) 1 1) [1] from ⟨_, _, rfl, Nat.le_refl _, by decide, fun _ => ⟨_, _, rfl, fun k hk => by
        obtain rfl : k = 0 := by simp at hk; exact hk
        exact (cells_of_block heap_alloc_eq 0 (.int .u8 1) rfl).1⟩⟩)
      clear hl7 hb7
      go_wp2_with fail
      refine (append_gen (w7.alloc (.cells #[.int .u8 1] 5)) w6.heap.size p0 (.slice none 0 0) 0 [] 0 (8 : Int).toNat [] (HL7.out.below HB8.out) parsed_nil _ [1] HSR.out (by decide)).mono ?_
      rw [one_app]
      rintro e w8 ⟨rfl, _, hk8⟩
      have hb68 : Below w6.heap.size w6 w8 := ((Keeps.of_below (F := fun i => w6.heap.size ≤ i) (below_then HB7.out HB8.out)).trans (hk8.mono fun i _ hx => by
        rcases hx with hx | hx
        · rw [hx]; exact HL7.out.base
        · simp [Value.ownBlock] at hx)).below (fun i hi hx => by omega)
      have HU8 := Lib.hid (HU6.out.below hb68)
      clear hb68 hk8 HU6 HL7 HB7 HB8 HSR
      go_wp2_with fail
      refine (sversion_any w8 B _ cv' _ _ HU8.out.sm).mono ?_
      rw [verS_snoc, show (changeM ms cs (clsO more)).2.version = verS cs + 1 by rw [(change_ok he).2], HVR.out]
      rintro e w9 ⟨rfl, hb⟩
      have HU9 := Lib.hid (HU8.out.below hb)
      have hne : ((cs.length : Int) + 1 == (cs.length : Int)) = false := by simp; omega
      have hwr : IntKind.u64.wrap ((cs.length : Int) + 1) = (cs.length : Int) + 1 := by simp [IntKind.wrap, IntKind.bits, IntKind.signed]; omega
      have hc2 : (changeM ms2 cs (clsO more)).1 = 0 := by rw [changeM_perm HPM.out HTS5.out.sa.sm.keys]; exact he
      have hr2 : ¬ 400 - n < needN (chE (changeM ms2 cs (clsO more)).2).length := by rw [changeM_perm HPM.out HTS5.out.sa.sm.keys]; exact hroom
      have hP1 : P.1 = 0 := by
        rw [HP.out]
        unfold putM
        rw [if_pos hc2, if_neg hr2]
      have hP2 : P.2.1 = (changeM ms cs (clsO more)).2.obj := by
        rw [HP.out]
        unfold putM
        rw [if_pos hc2, if_neg hr2, changeM_perm HPM.out HTS5.out.sa.sm.keys]
      have hA : assoc (doM ms (changeM ms cs (clsO more)).2) ⟨1, more⟩ = some P.2.1 := by
        rw [hP2]
        rw [show doM ms (changeM ms cs (clsO more)).2 = assocPut ms ⟨1, more⟩ (changeM ms cs (clsO more)).2.obj by
          rw [(change_ok he).2]; rfl]
        rw [assoc_put]
        simp
      have HA := Lib.hid hA
      have HP1 := Lib.hid hP1
      clear hb HU8 hc2 hr2 hP1 hP2 hA
      go_wp2_with fail
      refine (sget_any w9 B _ cv' _ _ HU9.out.sm ⟨1, more⟩).mono ?_
      rw [HA.out]
      rintro e wA ⟨rfl, hb⟩
      simp only [Option.getD_some, Option.isSome_some]
      have HUA := Lib.hid (HU9.out.below hb)
      clear hb HU9
      obtain ⟨WB, hWB⟩ : ∃ W, W = Wset (wA.alloc (.cells (cellsO objZ) 31)) wA.heap.size (.cells (cellsO P.2.1) 31 (0, 0)) := ⟨_, rfl⟩
      have hbn1 := below_new wA (.cells (cellsO objZ) 31) (.cells (cellsO P.2.1) 31 (0, 0))
      have hnb1 := new_box wA (.cells (cellsO objZ) 31) (cellsO P.2.1) 31
      rw [← hWB] at hbn1 hnb1
      have hq1 : (wA.alloc (.cells (cellsO objZ) 31)).heap[wA.heap.size]? = some (.cells (cellsO objZ) 31 (0, 0)) := heap_alloc_eq
      conv at hq1 => lhs; rw [HZ.out]
      have HQ1 := Lib.hid hq1
      have HW1 := Lib.hid hWB
      have HNB1 := Lib.hid hnb1
      have HBN1 := Lib.hid hbn1
      clear hWB hbn1 hnb1 hq1
      have HUB := Lib.hid (HUA.out.below HBN1.out)
      have hP1 := HP1.out
      go_wp2_with (first
        | (refine wpList_storeObj rfl _ _ rfl wA.heap.size rfl P.2.1 rfl _ HQ1.out rfl ?_; rw [← HZ.out, ← HW1.out])
        | refine wpList_loadObjG (by first | rfl | (simp [Region.wanted, yielded]; done)) _ rfl wA.heap.size rfl P.2.1 (cells_all HNB1.out) ?_
        | refine wpList_loadObjG (by first | rfl | (simp [Region.wanted, yielded]; done)) _ rfl bx rfl P.2.1 (cells_all HUB.out.box) ?_
        | refine wpList_eqlObjG (by first | rfl | (simp [Region.wanted, yielded]; done)) _ _ _ rfl P.2.1 P.2.1 rfl rfl ?_
        | fail)
      refine (sversion_any WB B _ cv' _ _ HUB.out.sm).mono ?_
      rw [verS_snoc, show (changeM ms cs (clsO more)).2.version = verS cs + 1 by rw [(change_ok he).2], HVR.out]
      rintro e wC ⟨rfl, hb⟩
      have HBE := Lib.hid (below_then HUB.out.bl hb)
      clear hb
      go_wp2
      go_ret
      exact ⟨rfl, HBE.out⟩

end Go.Proofs.Ytobpohjhhelljaa
