/- Layer 4 (codec), CodecReads: the walk. -/
import Derived.Test.YtgplolfkfhhddaaQ7
import Derived.Test.YtgplolfkfhhddaaK1
import Derived.Test.YtgplolfkfhhddaaLV
namespace Go.Proofs.Ytgplolfkfhhddaa
open Go.RowKit
set_option linter.unusedVariables false
set_option linter.unusedSimpArgs false

theorem run_app_src {w : World} {B B' : Nat} {v x : Value} {xs l : Bs} (ty : TypeId) (hown : OwnB w B v xs) (hx : SrcB w B' x l) (hlim : xs.length + l.length ≤ 140737488355328) (hB : B ≤ w.heap.size) :
    ∃ v' w', (Builtin.append_ #[28, 28] ty #[v, x]).run Try.prog w = .ok v' w' ∧ OwnB w' B v' (xs ++ l) ∧ w.grownBy w' v.ownBlock := by
  rcases hx with ⟨h, _⟩ | ⟨rfl, a, c, rfl, _⟩
  · exact run_app_bytes ty hown h hlim hB
  · obtain ⟨i0, hi, hz0, hz1, hz2⟩ := info_parts info_b
    cases a with
    | none =>
      refine ⟨v, w, ?_, by simpa using hown, ⟨rfl, rfl, rfl, Nat.le_refl _, fun _ _ _ => rfl⟩⟩
      rcases hown.2 with ⟨rfl, h0⟩ | ⟨g, cap, cur, rfl, _, _, hnc, _⟩
      · simp [Builtin.append_, run_underlying und_B, sizeOf, typeInfo, hi, Builtin.lenOf, Builtin.firstCells]
      · simp [Builtin.append_, run_underlying und_B, sizeOf, typeInfo, hi, Builtin.lenOf, Builtin.firstCells, hnc, storeCells]
    | some a =>
      obtain ⟨v', w', h3, h4, h5, _⟩ := run_append_own (w := w) B 28 ty 5 i0 (.int .u8 0) 1 1 und_B hi hz0 hz1 hz2 rfl (by decide) v _ _ hown a 0 c [] (by simp)
        (fun j u hu => by simp at hu) (fun u hu => by simp at hu) (by simp at hlim; unfold maxLen; omega) (by simp at hlim; omega) hB
      exact ⟨v', w', h3, by simpa using h4, h5⟩
theorem wpList_app_src {ops : Array Oper} {rest : List Oper} {o : Oper} {a : Act} {w : World} {Q : Exit → Act → World → Prop} (hgd : o.guard = none) (s x : Operand)
    (ho : o.op = .call { callee := .builtin .append, args := #[s, x], argTypes := #[28, 28] }) (B : Nat) (v : Value) (xs : Bs) (hs : a.eval s = v) (hown : OwnB w B v xs) (y : Value) (l : Bs) (hx : a.eval x = y) (B' : Nat) (hy : SrcB w B' y l)
    (hlim : xs.length + l.length ≤ 140737488355328) (hB : B ≤ w.heap.size) (h : ∀ v' w', OwnB w' B v' (xs ++ l) → w.grownBy w' v.ownBlock → wpList Try.prog ops Q rest (a.put o.dst v') w') : wpList Try.prog ops Q (o :: rest) a w := by
  refine wpList_plain hgd fun K hK => ?_
  obtain ⟨v', w', hr, h1, h2⟩ := run_app_src o.type hown hy hlim hB
  unfold Oper.wp
  simp [execOp, ho, resolve, invoke, builtin, hs, hx, hr, Result.andThen]
  exact hK _ _ (h v' w' h1 h2)

set_option maxRecDepth 100000 in
set_option maxHeartbeats 4000000 in
theorem reads_walk (v : Value) (bs : Bs) (w : World) (hs : SrcB w w.heap.size v bs) (hl : bs.length ≤ 100000000000000) : Calls Try.prog 7 #[v] w fun e w' => e = .returned (.bool true) ∧ Below w.heap.size w w' := by
  have HS := Lib.hid hs
  clear hs
  have hZ := objZ_cells
  simp only [noText] at hZ
  have HZ := Lib.hid hZ
  have hZE := evZ_cells
  simp only [noText] at hZE
  have HZE := Lib.hid hZE
  clear hZ hZE
  obtain ⟨X, hX⟩ : ∃ X, (readD bs).getD objZ = X := ⟨_, rfl⟩
  obtain ⟨E, hE⟩ : ∃ E : Int, (if (readD bs).isSome then 0 else 2) = E := ⟨_, rfl⟩
  obtain ⟨C, hC⟩ : ∃ C, (readC bs).getD evZ = C := ⟨_, rfl⟩
  obtain ⟨G, hG⟩ : ∃ G : Int, (if (readC bs).isSome then 0 else 2) = G := ⟨_, rfl⟩
  have HX := Lib.hid (And.intro hX hE)
  have HC := Lib.hid (And.intro hC hG)
  clear hX hE hC hG
  go_enter Try.func7, Try.ntmps7
  go_wp2_with (at_builtin; refine wpList_app_src rfl _ _ rfl w.heap.size (.slice (some ⟨w.heap.size, 0, none⟩) 0 0) [] rfl (OwnB.lit [] (Nat.le_refl _) (by simp) #[] rfl) v bs rfl _ (HS.out.start ((Below.refl _ _).alloc (Nat.le_refl _) _) (Nat.le_refl _)) (by simp; omega) (by simp) ?_; intro v1 w1 hown hgr; rw [List.nil_append] at hown; have hb6 := ((Below.refl w.heap.size w).alloc (Nat.le_refl _) (.cells #[] 5)).grown hgr (by simp) (fun k e => by simp [Value.ownBlock] at e; omega); have HO := Lib.hid hown; have HB := Lib.hid hb6; clear hown hgr hb6)
  refine (read_any v1 bs w1 HO.out.srcAt).mono ?_
  rintro e w2 ⟨rfl, hb⟩
  rw [HX.out.1, HX.out.2]
  have hB := HB.out.trans (hb.mono HB.out.size)
  have hO := HO.out.later hb
  have HB := Lib.hid hB
  have HO := Lib.hid hO
  clear hb hB hO 
  obtain ⟨W2, hW2⟩ : ∃ W, W = Wset (w2.alloc (.cells (cellsO objZ) 27)) w2.heap.size (.cells (cellsO X) 27 (0, 0)) := ⟨_, rfl⟩
  have hbn := below_new w2 (.cells (cellsO objZ) 27) (.cells (cellsO X) 27 (0, 0))
  have hnb := new_box w2 (.cells (cellsO objZ) 27) (cellsO X) 27
  rw [← hW2] at hbn hnb
  have hq : (w2.alloc (.cells (cellsO objZ) 27)).heap[w2.heap.size]? = some (.cells (cellsO objZ) 27 (0, 0)) := heap_alloc_eq
  conv at hq => lhs; rw [HZ.out]
  have hB := HB.out.trans (hbn.mono HB.out.size)
  have hO := HO.out.later hbn
  have HB := Lib.hid hB
  have HO := Lib.hid hO
  clear hbn hB hO 
  have HKa := Lib.hid hnb
  have HQ := Lib.hid hq
  have HW := Lib.hid hW2
  clear hnb hq hW2
  go_wp2_with (first
    | (refine wpList_storeObj rfl _ _ rfl w2.heap.size rfl X rfl _ HQ.out rfl ?_; rw [← HZ.out, ← HW.out])
    | fail)
  clear HQ HW
  refine (qread_any v bs W2 (HS.out.start HB.out HB.out.size)).mono ?_
  rintro e w4 ⟨rfl, hb⟩
  rw [HX.out.1, HX.out.2]
  have hB := HB.out.trans (hb.mono HB.out.size)
  have hO := HO.out.later hb
  have hka := (hb.block _ (heap_lt HKa.out)).trans HKa.out
  have HB := Lib.hid hB
  have HO := Lib.hid hO
  have HKa := Lib.hid hka
  clear hb hB hO hka
  obtain ⟨W4, hW4⟩ : ∃ W, W = Wset (w4.alloc (.cells (cellsO objZ) 27)) w4.heap.size (.cells (cellsO X) 27 (0, 0)) := ⟨_, rfl⟩
  have hbn := below_new w4 (.cells (cellsO objZ) 27) (.cells (cellsO X) 27 (0, 0))
  have hnb := new_box w4 (.cells (cellsO objZ) 27) (cellsO X) 27
  rw [← hW4] at hbn hnb
  have hq : (w4.alloc (.cells (cellsO objZ) 27)).heap[w4.heap.size]? = some (.cells (cellsO objZ) 27 (0, 0)) := heap_alloc_eq
  conv at hq => lhs; rw [HZ.out]
  have hB := HB.out.trans (hbn.mono HB.out.size)
  have hO := HO.out.later hbn
  have hka := (hbn.block _ (heap_lt HKa.out)).trans HKa.out
  have HB := Lib.hid hB
  have HO := Lib.hid hO
  have HKa := Lib.hid hka
  clear hbn hB hO hka
  have HKb := Lib.hid hnb
  have HQ := Lib.hid hq
  have HW := Lib.hid hW4
  clear hnb hq hW4
  go_wp2_with (first
    | (refine wpList_storeObj rfl _ _ rfl w4.heap.size rfl X rfl _ HQ.out rfl ?_; rw [← HZ.out, ← HW.out])
    | fail)
  clear HQ HW
  refine (readC_any v1 bs W4 HO.out.srcAt).mono ?_
  rintro e w6 ⟨rfl, hb⟩
  rw [HC.out.1, HC.out.2]
  have hB := HB.out.trans (hb.mono HB.out.size)
  have hO := HO.out.later hb
  have hka := (hb.block _ (heap_lt HKa.out)).trans HKa.out
  have hkb := (hb.block _ (heap_lt HKb.out)).trans HKb.out
  have HB := Lib.hid hB
  have HO := Lib.hid hO
  have HKa := Lib.hid hka
  have HKb := Lib.hid hkb
  clear hb hB hO hka hkb
  obtain ⟨W6, hW6⟩ : ∃ W, W = Wset (w6.alloc (.cells (cellsEv evZ) 39)) w6.heap.size (.cells (cellsEv C) 39 (0, 0)) := ⟨_, rfl⟩
  have hbn := below_new w6 (.cells (cellsEv evZ) 39) (.cells (cellsEv C) 39 (0, 0))
  have hnb := new_box w6 (.cells (cellsEv evZ) 39) (cellsEv C) 39
  rw [← hW6] at hbn hnb
  have hq : (w6.alloc (.cells (cellsEv evZ) 39)).heap[w6.heap.size]? = some (.cells (cellsEv evZ) 39 (0, 0)) := heap_alloc_eq
  conv at hq => lhs; rw [HZE.out]
  have hB := HB.out.trans (hbn.mono HB.out.size)
  have hO := HO.out.later hbn
  have hka := (hbn.block _ (heap_lt HKa.out)).trans HKa.out
  have hkb := (hbn.block _ (heap_lt HKb.out)).trans HKb.out
  have HB := Lib.hid hB
  have HO := Lib.hid hO
  have HKa := Lib.hid hka
  have HKb := Lib.hid hkb
  clear hbn hB hO hka hkb
  have HKc := Lib.hid hnb
  have HQ := Lib.hid hq
  have HW := Lib.hid hW6
  clear hnb hq hW6
  go_wp2_with (first
    | (refine wpList_storeEv rfl _ _ rfl w6.heap.size rfl C evZ rfl HQ.out ?_; rw [← HZE.out, ← HW.out])
    | fail)
  clear HQ HW
  refine (qreadC_any v bs W6 (HS.out.start HB.out HB.out.size)).mono ?_
  rintro e w8 ⟨rfl, hb⟩
  rw [HC.out.1, HC.out.2]
  have hB := HB.out.trans (hb.mono HB.out.size)
  have hO := HO.out.later hb
  have hka := (hb.block _ (heap_lt HKa.out)).trans HKa.out
  have hkb := (hb.block _ (heap_lt HKb.out)).trans HKb.out
  have hkc := (hb.block _ (heap_lt HKc.out)).trans HKc.out
  have HB := Lib.hid hB
  have HO := Lib.hid hO
  have HKa := Lib.hid hka
  have HKb := Lib.hid hkb
  have HKc := Lib.hid hkc
  clear hb hB hO hka hkb hkc
  obtain ⟨W8, hW8⟩ : ∃ W, W = Wset (w8.alloc (.cells (cellsEv evZ) 39)) w8.heap.size (.cells (cellsEv C) 39 (0, 0)) := ⟨_, rfl⟩
  have hbn := below_new w8 (.cells (cellsEv evZ) 39) (.cells (cellsEv C) 39 (0, 0))
  have hnb := new_box w8 (.cells (cellsEv evZ) 39) (cellsEv C) 39
  rw [← hW8] at hbn hnb
  have hq : (w8.alloc (.cells (cellsEv evZ) 39)).heap[w8.heap.size]? = some (.cells (cellsEv evZ) 39 (0, 0)) := heap_alloc_eq
  conv at hq => lhs; rw [HZE.out]
  have hB := HB.out.trans (hbn.mono HB.out.size)
  have hO := HO.out.later hbn
  have hka := (hbn.block _ (heap_lt HKa.out)).trans HKa.out
  have hkb := (hbn.block _ (heap_lt HKb.out)).trans HKb.out
  have hkc := (hbn.block _ (heap_lt HKc.out)).trans HKc.out
  have HB := Lib.hid hB
  have HO := Lib.hid hO
  have HKa := Lib.hid hka
  have HKb := Lib.hid hkb
  have HKc := Lib.hid hkc
  clear hbn hB hO hka hkb hkc
  have HKd := Lib.hid hnb
  have HQ := Lib.hid hq
  have HW := Lib.hid hW8
  clear hnb hq hW8
  go_wp2_with (first
    | (refine wpList_storeEv rfl _ _ rfl w8.heap.size rfl C evZ rfl HQ.out ?_; rw [← HZE.out, ← HW.out])
    | (go_at_call 13; refine (live_any _).mono ?_; rintro e w9 ⟨rfl, hb⟩; have hB := HB.out.trans (hb.mono HB.out.size); have hO := HO.out.later hb; have hka := (hb.block _ (heap_lt HKa.out)).trans HKa.out; have hkb := (hb.block _ (heap_lt HKb.out)).trans HKb.out; have hkc := (hb.block _ (heap_lt HKc.out)).trans HKc.out; have hkd := (hb.block _ (heap_lt HKd.out)).trans HKd.out; have HB := Lib.hid hB; have HO := Lib.hid hO; have HKa := Lib.hid hka; have HKb := Lib.hid hkb; have HKc := Lib.hid hkc; have HKd := Lib.hid hkd; clear hb hB hO hka hkb hkc hkd; have t1 := run_text HO.out.isB; have t2 := (HS.out.start HB.out HB.out.size).text)
    | refine wpList_loadObjG (by first | rfl | (simp [Region.wanted, yielded]; done)) _ rfl w2.heap.size rfl X (cells_all HKa.out) ?_
    | refine wpList_loadObjG (by first | rfl | (simp [Region.wanted, yielded]; done)) _ rfl w4.heap.size rfl X (cells_all HKb.out) ?_
    | refine wpList_eqlObjG (by first | rfl | (simp [Region.wanted, yielded]; done)) _ _ _ rfl X X rfl rfl ?_
    | refine wpList_loadEvG (by first | rfl | (simp [Region.wanted, yielded]; done)) _ rfl w6.heap.size rfl C (cells_all HKc.out) ?_
    | refine wpList_loadEvG (by first | rfl | (simp [Region.wanted, yielded]; done)) _ rfl w8.heap.size rfl C (cells_all HKd.out) ?_
    | refine wpList_eqlEvG (by first | rfl | (simp [Region.wanted, yielded]; done)) _ _ _ rfl C C rfl rfl ?_
    | fail)
  go_ret
  exact ⟨rfl, HB.out⟩

end Go.Proofs.Ytgplolfkfhhddaa
