/- Layer 4 (codec), CodecCuts: the walk. -/
import Derived.Test.YtgplolfkfhhddaaK3
import Derived.Test.YtgplolfkfhhddaaR8
namespace Go.Proofs.Ytgplolfkfhhddaa
open Go.RowKit
set_option linter.unusedVariables false
set_option linter.unusedSimpArgs false

theorem own_lv1 {w : World} {B : Nat} {v : Value} {l : Bs} (h : OwnB w B v l) (hl : 0 < l.length) : ∃ g c, v = .slice (some ⟨g, 0, none⟩) l.length c ∧ l.length ≤ c ∧ c ≤ maxLen := by
  obtain ⟨_, ⟨rfl, h0⟩ | ⟨g, c, _, rfl, _, _, h1, h2, _⟩⟩ := h
  · omega
  · exact ⟨g, c, rfl, h1, h2⟩
theorem own_cut {w : World} {B g c : Nat} {l : Bs} (h : OwnB w B (.slice (some ⟨g, 0, none⟩) l.length c) l) (K : Nat) (hK : K ≤ l.length) (hl : 0 < l.length) : SrcB w w.heap.size (.slice (some ⟨g, 0, none⟩) K c) (l.take K) := by
  have hlo := (h.tb (k := g) rfl).2.1
  rcases h.isB with ⟨h0, _⟩ | ⟨b, o, c', e, h1, h2, h3⟩
  · cases h0
  · simp only [Value.slice.injEq, Option.some.injEq, Addr.mk.injEq] at e
    obtain ⟨⟨rfl, rfl, _⟩, _, rfl⟩ := e
    have hll : (l.take K).length = K := by rw [List.length_take]; omega
    refine .inl ⟨.inr ⟨g, 0, c, by rw [hll], by omega, h2, fun k hk => ?_⟩, fun b e => by simp [blk] at e; subst e; exact hlo⟩
    rw [List.getElem_take]
    exact h3 k (by omega)
theorem cut_none {o : Obj} (ty : o.Typed) (ra : rightB o = true) (K : Nat) (hK : K < (objE o).length) : readD ((objE o).take K) = none :=
  readD_cut (x := (objE o).drop K) ty ra (List.take_append_drop K _) (fun h => by have := congrArg List.length h; simp at this; omega)
theorem cutC_none {c : Ev} (ty : c.Typed) (ra : rightB c.obj = true) (K : Nat) (hK : K < (chE c).length) : readC ((chE c).take K) = none :=
  readC_cut (x := (chE c).drop K) ty ra (List.take_append_drop K _) (fun h => by have := congrArg List.length h; simp at this; omega)
theorem tmod_nat (N L : Nat) : Int.tmod (N : Int) (L : Int) = ((N % L : Nat) : Int) := by rw [Int.tmod_eq_emod_of_nonneg (by omega)]; rfl

set_option maxRecDepth 100000 in
set_option maxHeartbeats 4000000 in
theorem cuts_walk (c : Ev) (N : Nat) (w : World) (ty : c.Typed) (fo : c.obj.Fits) (hN : N < 65536) : Calls Try.prog 9 #[.agg (cellsEv c), .int .u16 (N : Int)] w fun e w' => e = .returned (.bool true) ∧ Below w.heap.size w w' := by
  have HK := Lib.hid (BK.start w (.cells (cellsEv c) 39 (0, 0)))
  have TY := Lib.hid ty
  have FO := Lib.hid fo
  have hZ := objZ_cells
  simp only [noText] at hZ
  have HZ := Lib.hid hZ
  have hZE := evZ_cells
  simp only [noText] at hZE
  have HZE := Lib.hid hZE
  have hwr : wrap64 (N : Int) = N := by unfold wrap64; omega
  clear ty fo hZ hZE
  cases ra : rightB c.obj with
  | false =>
    have RA := Lib.hid ra
    clear ra
    go_enter Try.func9, Try.ntmps9
    go_wp2_with (first
      | refine wpList_loadObjAt rfl _ rfl _ _ rfl c.obj (EvBox.mk HK.out.box).obj ?_
      | refine wpList_loadEv rfl _ rfl w.heap.size rfl c (EvBox.mk HK.out.box) ?_
      | (go_at_call 10; refine (object_any c.obj _ TY.out.obj FO.out).mono ?_; rw [RA.out]; rintro e w1 ⟨v1, rfl, hown, hb⟩; have hK := HK.out.next hb; have HK := Lib.hid hK; clear hown hb hK)
      | (go_at_call 15; refine (change_any c _ TY.out FO.out).mono ?_; rw [RA.out]; rintro e w2 ⟨v2, rfl, hown, hb⟩; have hK := HK.out.next hb; have HK := Lib.hid hK; clear hown hb hK)
      | (go_at_call 13; refine (live_any _).mono ?_; rintro e w9 ⟨rfl, hb⟩; have hK := HK.out.next hb; have HK := Lib.hid hK; clear hb hK))
    go_ret
    exact ⟨rfl, HK.out.below⟩
  | true =>
    have RA := Lib.hid ra
    have hlo := objE_len TY.out.obj ra
    have hlc := chE_len TY.out ra
    clear ra
    obtain ⟨L1, hL1⟩ : ∃ L, (objE c.obj).length = L := ⟨_, rfl⟩
    obtain ⟨L2, hL2⟩ : ∃ L, (chE c).length = L := ⟨_, rfl⟩
    obtain ⟨K1, hK1⟩ : ∃ K, N % L1 = K := ⟨_, rfl⟩
    obtain ⟨K2, hK2⟩ : ∃ K, N % L2 = K := ⟨_, rfl⟩
    have ht1 : Int.tmod (N : Int) (L1 : Int) = (K1 : Int) := by rw [tmod_nat, hK1]
    have ht2 : Int.tmod (N : Int) (L2 : Int) = (K2 : Int) := by rw [tmod_nat, hK2]
    rw [hL1] at hlo
    rw [hL2] at hlc
    have hlt1 : K1 < L1 := by rw [← hK1]; exact Nat.mod_lt _ (by omega)
    have hlt2 : K2 < L2 := by rw [← hK2]; exact Nat.mod_lt _ (by omega)
    have d1 : ((L1 : Int) == 0) = false := by simp; omega
    have d2 : ((L2 : Int) == 0) = false := by simp; omega
    have d3 : ¬ (L1 : Int) = 0 := by omega
    have d4 : ¬ (L2 : Int) = 0 := by omega
    have d5 : ¬ L1 = 0 := by omega
    have d6 : ¬ L2 = 0 := by omega
    have HL1 := Lib.hid hL1
    have HL2 := Lib.hid hL2
    have HO := Lib.hid (And.intro hlo hlt1)
    have HC := Lib.hid (And.intro hlc hlt2)
    have hn1 := cut_none TY.out.obj RA.out K1 (by omega)
    have hn2 := cutC_none TY.out RA.out K2 (by omega)
    have HN1 := Lib.hid hn1
    have HN2 := Lib.hid hn2
    clear hL1 hL2 hK1 hK2 hlo hlc hn1 hn2
    go_enter Try.func9, Try.ntmps9
    go_wp2_with (refine wpList_loadObjAt rfl _ rfl _ _ rfl c.obj (EvBox.mk HK.out.box).obj ?_)
    refine (object_any c.obj _ TY.out.obj FO.out).mono ?_
    rw [RA.out]
    rintro e w1 ⟨v1, rfl, hown, hb⟩
    rw [if_pos rfl] at hown
    obtain ⟨g1, k1, rfl, hk1, hm1⟩ := own_lv1 hown (by have := HO.out; have := HL1.out; omega)
    rw [HL1.out] at hk1 ⊢
    have hK := HK.out.next hb
    have HK := Lib.hid hK
    have HV1 := Lib.hid hown
    clear hown hb hK
    go_wp2_with (refine wpList_loadEv rfl _ rfl w.heap.size rfl c (EvBox.mk HK.out.box) ?_)
    refine (change_any c _ TY.out FO.out).mono ?_
    rw [RA.out]
    rintro e w2 ⟨v2, rfl, hown, hb⟩
    rw [if_pos rfl] at hown
    obtain ⟨g2, k2, rfl, hk2, hm2⟩ := own_lv1 hown (by have := HC.out; have := HL2.out; omega)
    rw [HL2.out] at hk2 ⊢
    have hK := HK.out.next hb
    have h1 := HV1.out.later hb
    have HK := Lib.hid hK
    have HV1 := Lib.hid h1
    have HV2 := Lib.hid hown
    have hc1 : K1 ≤ k1 := by omega
    have hc2 : K2 ≤ k2 := by omega
    clear hown hb hK h1
    go_wp2_with fail
    have hs5 := own_cut HV1.out K1 (by rw [HL1.out]; omega) (by rw [HL1.out]; omega)
    refine (read_any _ _ w2 hs5).mono ?_
    rintro e w3 ⟨rfl, hb⟩
    clear hs5
    rw [HN1.out]
    simp only [Option.getD_none, Option.isSome_none, Bool.false_eq_true, if_false]
    have hK := HK.out.next hb
    have h1 := HV1.out.later hb
    have h2 := HV2.out.later hb
    have HK := Lib.hid hK
    have HV1 := Lib.hid h1
    have HV2 := Lib.hid h2
    clear hb hK h1 h2
    obtain ⟨W3, hW3⟩ : ∃ W, W = Wset (w3.alloc (.cells (cellsO objZ) 27)) w3.heap.size (.cells (cellsO objZ) 27 (0, 0)) := ⟨_, rfl⟩
    have hb := below_new w3 (.cells (cellsO objZ) 27) (.cells (cellsO objZ) 27 (0, 0))
    rw [← hW3] at hb
    have hq : (w3.alloc (.cells (cellsO objZ) 27)).heap[w3.heap.size]? = some (.cells (cellsO objZ) 27 (0, 0)) := heap_alloc_eq
    conv at hq => lhs; rw [HZ.out]
    have hK := HK.out.next hb
    have h1 := HV1.out.later hb
    have h2 := HV2.out.later hb
    have HK := Lib.hid hK
    have HV1 := Lib.hid h1
    have HV2 := Lib.hid h2
    have HQ := Lib.hid hq
    have HW3 := Lib.hid hW3
    clear hb hq hK h1 h2 hW3
    go_wp2_with (first
      | (refine wpList_storeObj rfl _ _ rfl w3.heap.size rfl objZ rfl _ HQ.out rfl ?_; rw [← HZ.out, ← HW3.out])
      | fail)
    have hs6 := own_cut HV2.out K2 (by rw [HL2.out]; omega) (by rw [HL2.out]; omega)
    refine (readC_any _ _ W3 hs6).mono ?_
    rintro e w4 ⟨rfl, hb⟩
    clear hs6
    rw [HN2.out]
    simp only [Option.getD_none, Option.isSome_none, Bool.false_eq_true, if_false]
    clear HQ HW3
    have hK := HK.out.next hb
    have h1 := HV1.out.later hb
    have h2 := HV2.out.later hb
    have HK := Lib.hid hK
    have HV1 := Lib.hid h1
    have HV2 := Lib.hid h2
    clear hb hK h1 h2
    obtain ⟨W4, hW4⟩ : ∃ W, W = Wset (w4.alloc (.cells (cellsEv evZ) 39)) w4.heap.size (.cells (cellsEv evZ) 39 (0, 0)) := ⟨_, rfl⟩
    have hb := below_new w4 (.cells (cellsEv evZ) 39) (.cells (cellsEv evZ) 39 (0, 0))
    rw [← hW4] at hb
    have hq : (w4.alloc (.cells (cellsEv evZ) 39)).heap[w4.heap.size]? = some (.cells (cellsEv evZ) 39 (0, 0)) := heap_alloc_eq
    conv at hq => lhs; rw [HZE.out]
    have hK := HK.out.next hb
    have h1 := HV1.out.later hb
    have h2 := HV2.out.later hb
    have HK := Lib.hid hK
    have HV1 := Lib.hid h1
    have HV2 := Lib.hid h2
    have HQ := Lib.hid hq
    have HW4 := Lib.hid hW4
    clear hb hq hK h1 h2 hW4
    go_wp2_with (first
      | (refine wpList_storeEv rfl _ _ rfl w4.heap.size rfl evZ evZ rfl HQ.out ?_; rw [← HZE.out, ← HW4.out])
      | (at_builtin; refine wpList_app_bytes rfl _ _ rfl W4.heap.size v5 (objE c.obj) rfl (HA.out.alloc _) _ [to8 0] rfl (OwnB.isB (OwnB.lit [to8 0] (Nat.le_refl _) (by simp) _ (cells_one (by decide)))) (by have := HO.out; have := HC.out; rw [HL1.out]; simp; omega) (by have := HB6.out.size; simp; omega) ?_; intro v6 w6 hown hgr; have hb7 := (HB6.out.alloc HB6.out.size (.cells #[.int .u8 0] 5)).grown hgr (by have := HB6.out.size; simp; omega) (fun k e => (HA.out.tb e).1); have HA2 := Lib.hid hown; have HB7 := Lib.hid hb7; clear hown hgr hb7)
      | (at_builtin; refine wpList_app_bytes rfl _ _ rfl W4.heap.size (.slice (some ⟨W4.heap.size, 0, none⟩) 0 0) [] rfl (OwnB.lit [] (Nat.le_refl _) (by simp) #[] rfl) _ (objE c.obj) (by rw [← HL1.out]; rfl) ((HV1.out.later ((Below.refl _ _).alloc (Nat.le_refl _) _)).isB) (by have := HO.out; have := HC.out; rw [HL1.out]; simp; omega) (by simp) ?_; intro v5 w5 hown hgr; rw [List.nil_append] at hown; have hb6 := ((Below.refl W4.heap.size W4).alloc (Nat.le_refl _) (.cells #[] 5)).grown hgr (by simp) (fun k e => by simp [Value.ownBlock] at e; omega); have HA := Lib.hid hown; have HB6 := Lib.hid hb6; clear hown hgr hb6))
    have hs := HA2.out.srcAt
    have hb0 := HB7.out
    have hK := HK.out.next hb0
    have h2 := HV2.out.later hb0
    have HK := Lib.hid hK
    have HV2 := Lib.hid h2
    clear hb0 hK h2
    refine (read_any _ _ w6 hs).mono ?_
    rintro e w7 ⟨rfl, hb⟩
    clear hs
    rw [readD_more TY.out.obj RA.out (by simp)]
    simp only [Option.getD_none, Option.isSome_none, Bool.false_eq_true, if_false]
    clear HQ HW4 HA HB6 HA2 HB7
    have hK := HK.out.next hb
    have h2 := HV2.out.later hb
    have HK := Lib.hid hK
    have HV2 := Lib.hid h2
    clear hb hK h2
    obtain ⟨W5, hW5⟩ : ∃ W, W = Wset (w7.alloc (.cells (cellsO objZ) 27)) w7.heap.size (.cells (cellsO objZ) 27 (0, 0)) := ⟨_, rfl⟩
    have hb := below_new w7 (.cells (cellsO objZ) 27) (.cells (cellsO objZ) 27 (0, 0))
    rw [← hW5] at hb
    have hq : (w7.alloc (.cells (cellsO objZ) 27)).heap[w7.heap.size]? = some (.cells (cellsO objZ) 27 (0, 0)) := heap_alloc_eq
    conv at hq => lhs; rw [HZ.out]
    have hK := HK.out.next hb
    have h2 := HV2.out.later hb
    have HK := Lib.hid hK
    have HV2 := Lib.hid h2
    clear hb hK h2
    have HQ := Lib.hid hq
    have HW5 := Lib.hid hW5
    clear hq hW5
    go_wp2_with (first
      | (refine wpList_storeObj rfl _ _ rfl w7.heap.size rfl objZ rfl _ HQ.out rfl ?_; rw [← HZ.out, ← HW5.out])
      | (at_builtin; refine wpList_app_bytes rfl _ _ rfl W5.heap.size v8 (chE c) rfl (HA.out.alloc _) _ [to8 0] rfl (OwnB.isB (OwnB.lit [to8 0] (Nat.le_refl _) (by simp) _ (cells_one (by decide)))) (by have := HO.out; have := HC.out; rw [HL2.out]; simp; omega) (by have := HB6.out.size; simp; omega) ?_; intro v9 w9 hown hgr; have hb7 := (HB6.out.alloc HB6.out.size (.cells #[.int .u8 0] 5)).grown hgr (by have := HB6.out.size; simp; omega) (fun k e => (HA.out.tb e).1); have HA2 := Lib.hid hown; have HB7 := Lib.hid hb7; clear hown hgr hb7)
      | (at_builtin; refine wpList_app_bytes rfl _ _ rfl W5.heap.size (.slice (some ⟨W5.heap.size, 0, none⟩) 0 0) [] rfl (OwnB.lit [] (Nat.le_refl _) (by simp) #[] rfl) _ (chE c) (by rw [← HL2.out]; rfl) ((HV2.out.later ((Below.refl _ _).alloc (Nat.le_refl _) _)).isB) (by have := HO.out; have := HC.out; rw [HL2.out]; simp; omega) (by simp) ?_; intro v8 w8 hown hgr; rw [List.nil_append] at hown; have hb6 := ((Below.refl W5.heap.size W5).alloc (Nat.le_refl _) (.cells #[] 5)).grown hgr (by simp) (fun k e => by simp [Value.ownBlock] at e; omega); have HA := Lib.hid hown; have HB6 := Lib.hid hb6; clear hown hgr hb6))
    have hs := HA2.out.srcAt
    have hb0 := HB7.out
    have hK := HK.out.next hb0
    have h2 := HV2.out.later hb0
    have HK := Lib.hid hK
    have HV2 := Lib.hid h2
    clear hb0 hK h2
    refine (readC_any _ _ w9 hs).mono ?_
    rintro e w10 ⟨rfl, hb⟩
    clear hs
    rw [readC_more TY.out RA.out (by simp)]
    simp only [Option.getD_none, Option.isSome_none, Bool.false_eq_true, if_false]
    clear HQ HW5 HA HB6 HA2 HB7
    have hK := HK.out.next hb
    have h2 := HV2.out.later hb
    have HK := Lib.hid hK
    have HV2 := Lib.hid h2
    clear hb hK h2
    obtain ⟨W6, hW6⟩ : ∃ W, W = Wset (w10.alloc (.cells (cellsEv evZ) 39)) w10.heap.size (.cells (cellsEv evZ) 39 (0, 0)) := ⟨_, rfl⟩
    have hb := below_new w10 (.cells (cellsEv evZ) 39) (.cells (cellsEv evZ) 39 (0, 0))
    rw [← hW6] at hb
    have hq : (w10.alloc (.cells (cellsEv evZ) 39)).heap[w10.heap.size]? = some (.cells (cellsEv evZ) 39 (0, 0)) := heap_alloc_eq
    conv at hq => lhs; rw [HZE.out]
    have hK := HK.out.next hb
    have h2 := HV2.out.later hb
    have HK := Lib.hid hK
    have HV2 := Lib.hid h2
    clear hb hK h2
    have HQ := Lib.hid hq
    have HW6 := Lib.hid hW6
    clear hq hW6
    go_wp2_with (first
      | (refine wpList_storeEv rfl _ _ rfl w10.heap.size rfl evZ evZ rfl HQ.out ?_; rw [← HZE.out, ← HW6.out])
      | (go_at_call 13; refine (live_any _).mono ?_; rintro e w11 ⟨rfl, hb⟩; have hK := HK.out.next hb; have HK := Lib.hid hK; clear hb hK))
    go_ret
    exact ⟨rfl, HK.out.below⟩

theorem cuts_walk_int (c : Ev) (n : Int) (w : World) (ty : c.Typed) (fo : c.obj.Fits) (hn : 0 ≤ n ∧ n < 65536) : Calls Try.prog 9 #[.agg (cellsEv c), .int .u16 n] w fun e w' => e = .returned (.bool true) ∧ Below w.heap.size w w' := by
  obtain ⟨N, rfl⟩ := Int.eq_ofNat_of_zero_le hn.1
  exact cuts_walk c N w ty fo (by omega)

end Go.Proofs.Ytgplolfkfhhddaa
