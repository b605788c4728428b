/- Layer 4 (codec): what the document writes of an object, of a change. -/
import Derived.Test.YtgplolfkfhhddaaW2
import Derived.Test.YtgplolfkfhhddaaV1
import Derived.Test.YtgplolfkfhhddaaF26
import Derived.Test.YtgplolfkfhhddaaTree
namespace Go.Proofs.Ytgplolfkfhhddaa
open Go.RowKit
set_option linter.unusedVariables false
set_option linter.unusedSimpArgs false

/-- an object's box, and bytes behind it -/
structure OA (w : World) (w' : World) (o : Obj) (v : Value) (bs : Bs) : Prop where
  box : w'.heap[w.heap.size]? = some (.cells (cellsO o) 27 (0, 0))
  own : OwnB w' (w.heap.size + 1) v bs
  below : Below w.heap.size w w'
theorem OA.cells {w w' : World} {o : Obj} {v : Value} {bs : Bs} (h : OA w w' o v bs) : ∀ k, w'.cell? ⟨w.heap.size, k, none⟩ = (cellsO o)[k]? := cells_all h.box
theorem OA.size {w w' : World} {o : Obj} {v : Value} {bs : Bs} (h : OA w w' o v bs) : w.heap.size + 1 ≤ w'.heap.size := heap_lt h.box
theorem OA.drew {w w' : World} {o : Obj} {v : Value} {bs : Bs} (h : OA w w' o v bs) : OA w w'.drew o v bs := ⟨h.box, ownsRow_of_heap h.own fun _ _ => rfl, h.below.drew⟩
theorem OA.call {w w' w2 : World} {o : Obj} {v : Value} {bs : Bs} (h : OA w w' o v bs) (hb : Below w'.heap.size w' w2) : OA w w2 o v bs :=
  ⟨(hb.block _ (heap_lt h.box)).trans h.box, h.own.kept fun k hk => hb.block k (h.own.tb hk).2.1, h.below.trans (hb.mono h.below.size)⟩
theorem OA.app {w w' w2 : World} {o : Obj} {v v2 : Value} {bs bs2 : Bs} (h : OA w w' o v bs) (hown : OwnB w2 (w.heap.size + 1) v2 bs2) (hg : w'.grownBy w2 v.ownBlock) : OA w w2 o v2 bs2 :=
  ⟨((grownBy_keeps' hg).block _ (heap_lt h.box) fun e => absurd (h.own.tb e.symm).1 (by omega)).trans h.box, hown, h.below.grown hg h.below.size fun k e => Nat.le_of_succ_le (h.own.tb e).1⟩
theorem OA.start {w w' : World} {o : Obj} (hbox : w'.heap[w.heap.size]? = some (.cells (cellsO o) 27 (0, 0))) (hb : Below w.heap.size w w') : OA w w' o (.slice none 0 0) [] := ⟨hbox, OwnB.none _ _, hb⟩
theorem OA.alloc {w w' : World} {o : Obj} {v : Value} {bs : Bs} (h : OA w w' o v bs) (x : Go.Obj) : OA w (w'.alloc x) o v bs := h.call ((Below.refl _ _).alloc (Nat.le_refl _) _)
theorem OA.lit {w w' : World} {o : Obj} {v : Value} {bs : Bs} (h : OA w w' o v bs) (c : Int) (hc : 0 ≤ c ∧ c < 256) : OA w (w'.alloc (.cells #[.int .u8 c] 5)) o (.slice (some ⟨w'.heap.size, 0, none⟩) 1 1) [u8 c] :=
  let k := h.alloc (.cells #[.int .u8 c] 5)
  ⟨k.box, OwnB.lit [u8 c] (by have := h.size; omega) (by simp) _ (cells_one hc), k.below⟩
theorem lit_isB (w : World) (c : Int) (hc : 0 ≤ c ∧ c < 256) : IsB (w.alloc (.cells #[.int .u8 c] 5)) (.slice (some ⟨w.heap.size, 0, none⟩) 1 1) [u8 c] :=
  OwnB.isB (OwnB.lit [u8 c] (Nat.le_refl _) (by simp) _ (cells_one hc))
theorem OA.litI {w w' : World} {o : Obj} {v : Value} {bs : Bs} (_ : OA w w' o v bs) (c : Int) (hc : 0 ≤ c ∧ c < 256) : IsB (w'.alloc (.cells #[.int .u8 c] 5)) (.slice (some ⟨w'.heap.size, 0, none⟩) 1 1) [u8 c] := lit_isB _ c hc
theorem IsB.drew {w : World} {v : Value} {l : Bs} (h : IsB w v l) : IsB w.drew v l := h
theorem rnumber_int (x : Int) (hx : 0 ≤ x ∧ x < 18446744073709551616) (w : World) : Calls Try.prog 32 #[.int .u64 x] w fun e w' => RB w w' e (numE x.toNat) :=
  rnumber_any x.toNat x (by omega) (by omega) w
theorem rbit_nat (g : Bool) (k : Int) (n : Nat) (h : k = (n : Int)) (w : World) : Calls Try.prog 33 #[.bool g, .int .u8 k] w fun e w' => e = .returned (.int .u8 ((bitE g n : Nat) : Int)) ∧ w' = w := by
  refine (rbit_any g k w).mono ?_
  rintro e w' ⟨rfl, rfl⟩
  subst h
  refine ⟨?_, rfl⟩
  cases g <;> simp [bitE]
theorem or_flags (o : Obj) : bits .or .u8 (bits .or .u8 (bits .or .u8 ((bitE o.deleting 1 : Nat) : Int) ((bitE o.hold 2 : Nat) : Int)) ((bitE o.keep 4 : Nat) : Int)) ((bitE o.wait 8 : Nat) : Int) = ((flagsE o : Nat) : Int) := by
  have e : ∀ a b c d : Bool, bits .or .u8 (bits .or .u8 (bits .or .u8 ((bitE a 1 : Nat) : Int) ((bitE b 2 : Nat) : Int)) ((bitE c 4 : Nat) : Int)) ((bitE d 8 : Nat) : Int) = ((bitE a 1 + bitE b 2 + bitE c 4 + bitE d 8 : Nat) : Int) := by decide +kernel
  exact e _ _ _ _
theorem flags_rng (o : Obj) : 0 ≤ (flagsE o : Int) ∧ (flagsE o : Int) < 256 := by
  have := (flags_back o.deleting o.hold o.keep o.wait).1
  unfold flagsE; omega

set_option maxRecDepth 100000 in
set_option maxHeartbeats 4000000 in
theorem objectR_any (o : Obj) (w : World) (ht : o.Typed) (hf : o.Fits) :
    Calls Try.prog 14 #[.agg (cellsO o)] w fun e w' => BytesR w w' e (rightB o) (objE o) := by
  have HF := Lib.hid hf
  have HB0 := Lib.hid ((Below.refl w.heap.size w).alloc (Nat.le_refl _) (.cells (cellsO o) 27))
  have hS0 : ∀ k, (w.alloc (.cells (cellsO o) 27)).cell? ⟨w.heap.size, k, none⟩ = (cellsO o)[k]? := cells_all heap_alloc_eq
  clear hf
  cases hr : rightB o with
  | false =>
    have HR := Lib.hid hr
    clear hr ht
    go_enter Try.func14, Try.ntmps14
    go_wp2_with (refine wpList_loadObj rfl _ rfl _ rfl o hS0 ?_)
    refine (rightR_any o _ HF.out).mono ?_
    rw [HR.out]
    rintro e w1 ⟨rfl, hb1⟩
    have HB1 := Lib.hid ((HB0.out).trans (hb1.mono (HB0.out).size))
    clear hb1 hS0 HB0
    go_wp2
    go_ret2
    exact BytesR.no rfl HB1.out
  | true =>
    have HLn := Lib.hid (piece_lens ht hr)
    obtain ⟨hn, hx⟩ := right_texts hr
    have x0 : o.name.size ≤ 1000000 := by omega
    have x1 := hx o.cls (by simp [textsO]); have x2 := hx o.zone (by simp [textsO]); have x3 := hx o.node (by simp [textsO]); have x4 := hx o.claim (by simp [textsO]); have x5 := hx o.volume (by simp [textsO]); have x6 := hx o.source (by simp [textsO])
    have y0 : o.name.size ≤ 1000000 ∧ o.cls.size ≤ 1000000 ∧ o.zone.size ≤ 1000000 ∧ o.node.size ≤ 1000000 ∧ o.claim.size ≤ 1000000 ∧ o.volume.size ≤ 1000000 ∧ o.source.size ≤ 1000000 := by omega
    obtain ⟨hs, hg⟩ := right_sizes hr
    have z1 : o.size % 18446744073709551616 = o.size := by omega
    have z2 : o.got % 18446744073709551616 = o.got := by omega
    have s1 : 0 ≤ o.size ∧ o.size < 18446744073709551616 := by omega
    have s2 : 0 ≤ o.got ∧ o.got < 18446744073709551616 := by omega
    have HY := Lib.hid y0
    have HS1 := Lib.hid s1
    have HS2 := Lib.hid s2
    have HT := Lib.hid ht
    have HR := Lib.hid hr
    clear hn hx x0 x1 x2 x3 x4 x5 x6 y0 hs hg s1 s2 ht hr
    go_enter Try.func14, Try.ntmps14
    go_wp2_with (refine wpList_loadObj rfl _ rfl _ rfl o hS0 ?_)
    refine (rightR_any o _ HF.out).mono ?_
    rw [HR.out]
    rintro e w1 ⟨rfl, hb1⟩
    have hA : OA w w1 o (.slice none 0 0) [] := OA.start ((hb1.block _ (by simp)).trans heap_alloc_eq) ((HB0.out).trans (hb1.mono (HB0.out).size))
    have HA := Lib.hid hA
    clear hb1 hS0 HB0 hA
    go_wp2
    refine wp_region_tree (fun w' => (∀ k, w'.cell? ⟨w.heap.size, k, none⟩ = (cellsO o)[k]?)) (.t 0 (.t 1 (.t 3 (.t 4 (.f 2 (.a 5 (.a 6 (.t 7 .nil))) 5 (.a 2 (.a 6 (.t 7 .nil)))))))) (by kernel_rfl) (by kernel_rfl) (by kernel_rfl) ?_ ?_
    · exact (by first | exact HA.out.cells | exact HA.out.drew.cells)
    apply wpT_takeK rfl _ (by first | rfl | (simp [Region.wanted, yielded]; done))
    · intro w' hS
      have s0 := hS
      clear hS
      go_simp
      try rfl
    intro K hK
    go_simp
    refine hK _ ?_
    clear hK K
    apply wpT_takeK rfl _ (by first | rfl | (simp [Region.wanted, yielded]; done))
    · intro w' hS
      have s0 := hS
      clear hS
      go_simp
      try rfl
    intro K hK
    go_simp
    refine hK _ ?_
    clear hK K
    apply wpT_takeK rfl _ (by first | rfl | (simp [Region.wanted, yielded]; done))
    · intro w' hS
      have s0 := hS
      clear hS
      go_simp
      try rfl
    intro K hK
    go_simp
    refine hK _ ?_
    clear hK K
    apply wpT_takeK rfl _ (by first | rfl | (simp [Region.wanted, yielded]; done))
    · intro w' hS
      have s0 := hS
      clear hS
      go_simp
      try rfl
    intro K hK
    go_simp
    refine hK _ ?_
    clear hK K
    refine wpT_fork rfl rfl ?_ ?_
    focus (go_wp2; first | (have hA := HA.out.lit o.kind HT.out.kind; have hI := HI.out.below ((Below.refl _ _).alloc (Nat.le_refl _) (.cells #[.int .u8 (o.kind)] 5)); have HA := Lib.hid hA; have HI := Lib.hid hI; clear hA hI) | (have hA := HA.out.drew.lit o.kind HT.out.kind; have HA := Lib.hid hA; clear hA))
    refine QS_normal (by first | exact HA.out.cells | exact HA.out.drew.cells) (fun _ => ?_)
    refine wpT_alone rfl ?_
    focus (go_wp2_with (go_at_call 31; refine (rtext_any _ HY.out.1 _).mono ?_; rintro e w2 ⟨v2, rfl, ho, hb⟩; have hA := (by first | exact HA.out.call hb | exact HA.out.drew.call hb); have HA := Lib.hid hA; have HI := Lib.hid (OwnB.isB ho); clear ho hb hA))
    refine QS_normal (by first | exact HA.out.cells | exact HA.out.drew.cells) (fun _ => ?_)
    refine wpT_alone rfl ?_
    focus ((try simp only [List.getElem_toArray, List.getElem_cons_succ, List.getElem_cons_zero]); refine wpList_app_bytes rfl _ _ rfl (w.heap.size + 1) _ _ rfl HA.out.own _ _ rfl HI.out (by have := HLn.out; (try simp only [List.length_append, List.length_cons, List.length_nil]); omega) (HA.out.size) ?_; intro v3 w3 hown hgr; have hA := HA.out.app hown hgr; have HA := Lib.hid hA; clear hown hgr hA; go_wp2)
    refine QS_normal (by first | exact HA.out.cells | exact HA.out.drew.cells) (fun _ => ?_)
    apply wpT_takeK rfl _ (by first | rfl | (simp [Region.wanted, yielded]; done))
    · intro w' hS
      have s0 := hS
      clear hS
      go_simp
      try rfl
    intro K hK
    go_simp
    refine hK _ ?_
    clear hK K
    refine wpT_end ?_
    rotate_left
    focus (go_wp2_with (go_at_call 31; refine (rtext_any _ HY.out.1 _).mono ?_; rintro e w2 ⟨v2, rfl, ho, hb⟩; have hA := (by first | exact HA.out.call hb | exact HA.out.drew.call hb); have HA := Lib.hid hA; have HI := Lib.hid (OwnB.isB ho); clear ho hb hA))
    refine QS_normal (by first | exact HA.out.cells | exact HA.out.drew.cells) (fun _ => ?_)
    refine wpT_alone rfl ?_
    focus (go_wp2; first | (have hA := HA.out.lit o.kind HT.out.kind; have hI := HI.out.below ((Below.refl _ _).alloc (Nat.le_refl _) (.cells #[.int .u8 (o.kind)] 5)); have HA := Lib.hid hA; have HI := Lib.hid hI; clear hA hI) | (have hA := HA.out.drew.lit o.kind HT.out.kind; have HA := Lib.hid hA; clear hA))
    refine QS_normal (by first | exact HA.out.cells | exact HA.out.drew.cells) (fun _ => ?_)
    refine wpT_alone rfl ?_
    focus ((try simp only [List.getElem_toArray, List.getElem_cons_succ, List.getElem_cons_zero]); refine wpList_app_bytes rfl _ _ rfl (w.heap.size + 1) _ _ rfl HA.out.own _ _ rfl HI.out (by have := HLn.out; (try simp only [List.length_append, List.length_cons, List.length_nil]); omega) (HA.out.size) ?_; intro v3 w3 hown hgr; have hA := HA.out.app hown hgr; have HA := Lib.hid hA; clear hown hgr hA; go_wp2)
    refine QS_normal (by first | exact HA.out.cells | exact HA.out.drew.cells) (fun _ => ?_)
    apply wpT_takeK rfl _ (by first | rfl | (simp [Region.wanted, yielded]; done))
    · intro w' hS
      have s0 := hS
      clear hS
      go_simp
      try rfl
    intro K hK
    go_simp
    refine hK _ ?_
    clear hK K
    refine wpT_end ?_
    rotate_left
    all_goals
      go_wp2
      refine wp_region_N (fun w' => (∀ k, w'.cell? ⟨w.heap.size, k, none⟩ = (cellsO o)[k]?))
        [(true, 0), (true, 1), (true, 2), (true, 5), (true, 6), (false, 3), (false, 4), (false, 7), (false, 8), (true, 9)] (by kernel_rfl) (by kernel_rfl) rfl (by kernel_rfl) ?_ ?_
      · exact (by first | exact HA.out.cells | exact HA.out.drew.cells)
      simp only [List.filterMap_cons, List.filterMap_nil, List.getElem?_cons_succ, List.getElem?_cons_zero, Option.map_some]
      apply wpSeq_takeK _ (by first | rfl | (simp [Region.wanted, yielded]; done))
      · intro w' hS
        have s0 := hS
        clear hS
        go_simp
        try rfl
      intro K hK
      go_simp
      refine hK _ ?_
      clear hK K
      apply wpSeq_takeK _ (by first | rfl | (simp [Region.wanted, yielded]; done))
      · intro w' hS
        have s0 := hS
        clear hS
        go_simp
        try rfl
      intro K hK
      go_simp
      refine hK _ ?_
      clear hK K
      apply wpSeq_takeK _ (by first | rfl | (simp [Region.wanted, yielded]; done))
      · intro w' hS
        have s0 := hS
        clear hS
        go_simp
        try rfl
      intro K hK
      go_simp
      refine hK _ ?_
      clear hK K
      apply wpSeq_takeK _ (by first | rfl | (simp [Region.wanted, yielded]; done))
      · intro w' hS
        have s0 := hS
        clear hS
        go_simp
        try rfl
      intro K hK
      go_simp
      refine hK _ ?_
      clear hK K
      apply wpSeq_takeK _ (by first | rfl | (simp [Region.wanted, yielded]; done))
      · intro w' hS
        have s0 := hS
        clear hS
        go_simp
        try rfl
      intro K hK
      go_simp
      refine hK _ ?_
      clear hK K
      refine wpSeq_alone ?_
      (go_wp2_with (go_at_call 32; refine (rnumber_int _ HT.out.version _).mono ?_; rintro e w2 ⟨v2, rfl, ho, hb⟩; have hA := (by first | exact HA.out.call hb | exact HA.out.drew.call hb); have HA := Lib.hid hA; have HI := Lib.hid (OwnB.isB ho); clear ho hb hA))
      refine QS_normal (by first | exact HA.out.cells | exact HA.out.drew.cells) (fun _ => ?_)
      refine wpSeq_alone ?_
      ((try simp only [List.getElem_toArray, List.getElem_cons_succ, List.getElem_cons_zero]); refine wpList_app_bytes rfl _ _ rfl (w.heap.size + 1) _ _ rfl HA.out.own _ _ rfl HI.out (by have := HLn.out; (try simp only [List.length_append, List.length_cons, List.length_nil]); omega) (HA.out.size) ?_; intro v3 w3 hown hgr; have hA := HA.out.app hown hgr; have HA := Lib.hid hA; clear hown hgr hA; go_wp2)
      refine QS_normal (by first | exact HA.out.cells | exact HA.out.drew.cells) (fun _ => ?_)
      refine wpSeq_alone ?_
      (go_wp2_with (go_at_call 32; refine (rnumber_int _ HT.out.born _).mono ?_; rintro e w2 ⟨v2, rfl, ho, hb⟩; have hA := (by first | exact HA.out.call hb | exact HA.out.drew.call hb); have HA := Lib.hid hA; have HI := Lib.hid (OwnB.isB ho); clear ho hb hA))
      refine QS_normal (by first | exact HA.out.cells | exact HA.out.drew.cells) (fun _ => ?_)
      refine wpSeq_alone ?_
      ((try simp only [List.getElem_toArray, List.getElem_cons_succ, List.getElem_cons_zero]); refine wpList_app_bytes rfl _ _ rfl (w.heap.size + 1) _ _ rfl HA.out.own _ _ rfl HI.out (by have := HLn.out; (try simp only [List.length_append, List.length_cons, List.length_nil]); omega) (HA.out.size) ?_; intro v3 w3 hown hgr; have hA := HA.out.app hown hgr; have HA := Lib.hid hA; clear hown hgr hA; go_wp2)
      refine QS_normal (by first | exact HA.out.cells | exact HA.out.drew.cells) (fun _ => ?_)
      apply wpSeq_takeK _ (by first | rfl | (simp [Region.wanted, yielded]; done))
      · intro w' hS
        have s0 := hS
        clear hS
        go_simp
        try rfl
      intro K hK
      go_simp
      refine hK _ ?_
      clear hK K
      refine wpSeq_end ?_
      go_wp2
      refine wp_region_N (fun w' => (∀ k, w'.cell? ⟨w.heap.size, k, none⟩ = (cellsO o)[k]?))
        [(true, 0), (true, 1), (true, 2), (true, 4), (true, 5), (true, 8), (true, 9), (true, 12), (true, 13), (false, 3), (false, 6), (true, 7), (false, 10), (true, 11), (false, 14), (true, 15), (false, 16), (false, 17), (true, 18)] (by kernel_rfl) (by kernel_rfl) rfl (by kernel_rfl) ?_ ?_
      · exact (by first | exact HA.out.cells | exact HA.out.drew.cells)
      simp only [List.filterMap_cons, List.filterMap_nil, List.getElem?_cons_succ, List.getElem?_cons_zero, Option.map_some]
      apply wpSeq_takeK _ (by first | rfl | (simp [Region.wanted, yielded]; done))
      · intro w' hS
        have s0 := hS
        clear hS
        go_simp
        try rfl
      intro K hK
      go_simp
      refine hK _ ?_
      clear hK K
      apply wpSeq_takeK _ (by first | rfl | (simp [Region.wanted, yielded]; done))
      · intro w' hS
        have s0 := hS
        clear hS
        go_simp
        try rfl
      intro K hK
      go_simp
      refine hK _ ?_
      clear hK K
      apply wpSeq_takeK _ (by first | rfl | (simp [Region.wanted, yielded]; done))
      · intro w' hS
        have s0 := hS
        clear hS
        go_simp
        try rfl
      intro K hK
      go_simp
      refine hK _ ?_
      clear hK K
      apply wpSeq_takeK _ (by first | rfl | (simp [Region.wanted, yielded]; done))
      · intro w' hS
        have s0 := hS
        clear hS
        go_simp
        try rfl
      intro K hK
      go_simp
      refine hK _ ?_
      clear hK K
      apply wpSeq_takeK _ (by first | rfl | (simp [Region.wanted, yielded]; done))
      · intro w' hS
        have s0 := hS
        clear hS
        go_simp
        try rfl
      intro K hK
      go_simp
      refine hK _ ?_
      clear hK K
      apply wpSeq_takeK _ (by first | rfl | (simp [Region.wanted, yielded]; done))
      · intro w' hS
        have s0 := hS
        clear hS
        go_simp
        try rfl
      intro K hK
      go_simp
      refine hK _ ?_
      clear hK K
      apply wpSeq_takeK _ (by first | rfl | (simp [Region.wanted, yielded]; done))
      · intro w' hS
        have s0 := hS
        clear hS
        go_simp
        try rfl
      intro K hK
      go_simp
      refine hK _ ?_
      clear hK K
      apply wpSeq_takeK _ (by first | rfl | (simp [Region.wanted, yielded]; done))
      · intro w' hS
        have s0 := hS
        clear hS
        go_simp
        try rfl
      intro K hK
      go_simp
      refine hK _ ?_
      clear hK K
      apply wpSeq_takeK _ (by first | rfl | (simp [Region.wanted, yielded]; done))
      · intro w' hS
        have s0 := hS
        clear hS
        go_simp
        try rfl
      intro K hK
      go_simp
      refine hK _ ?_
      clear hK K
      refine wpSeq_alone ?_
      (go_wp2_with (go_at_call 33; refine (rbit_nat _ 1 1 rfl _).mono ?_; rintro e w2 ⟨rfl, rfl⟩))
      refine QS_normal (by first | exact HA.out.cells | exact HA.out.drew.cells) (fun _ => ?_)
      refine wpSeq_alone ?_
      (go_wp2_with (go_at_call 33; refine (rbit_nat _ 2 2 rfl _).mono ?_; rintro e w2 ⟨rfl, rfl⟩))
      refine QS_normal (by first | exact HA.out.cells | exact HA.out.drew.cells) (fun _ => ?_)
      apply wpSeq_takeK _ (by first | rfl | (simp [Region.wanted, yielded]; done))
      · intro w' hS
        have s0 := hS
        clear hS
        go_simp
        try rfl
      intro K hK
      go_simp
      refine hK _ ?_
      clear hK K
      refine wpSeq_alone ?_
      (go_wp2_with (go_at_call 33; refine (rbit_nat _ 4 4 rfl _).mono ?_; rintro e w2 ⟨rfl, rfl⟩))
      refine QS_normal (by first | exact HA.out.cells | exact HA.out.drew.cells) (fun _ => ?_)
      apply wpSeq_takeK _ (by first | rfl | (simp [Region.wanted, yielded]; done))
      · intro w' hS
        have s0 := hS
        clear hS
        go_simp
        try rfl
      intro K hK
      go_simp
      refine hK _ ?_
      clear hK K
      refine wpSeq_alone ?_
      (go_wp2_with (go_at_call 33; refine (rbit_nat _ 8 8 rfl _).mono ?_; rintro e w2 ⟨rfl, rfl⟩))
      refine QS_normal (by first | exact HA.out.cells | exact HA.out.drew.cells) (fun _ => ?_)
      apply wpSeq_takeK _ (by first | rfl | (simp [Region.wanted, yielded]; done))
      · intro w' hS
        have s0 := hS
        clear hS
        go_simp
        try rfl
      intro K hK
      go_simp
      refine hK _ ?_
      clear hK K
      refine wpSeq_alone ?_
      (go_wp2; (have hI := HA.out.drew.litI (bits .or .u8 (bits .or .u8 (bits .or .u8 ((bitE o.deleting 1 : Nat) : Int) ((bitE o.hold 2 : Nat) : Int)) ((bitE o.keep 4 : Nat) : Int)) ((bitE o.wait 8 : Nat) : Int)) (by rw [or_flags]; exact flags_rng o); have hA := HA.out.drew.alloc (.cells #[.int .u8 (bits .or .u8 (bits .or .u8 (bits .or .u8 ((bitE o.deleting 1 : Nat) : Int) ((bitE o.hold 2 : Nat) : Int)) ((bitE o.keep 4 : Nat) : Int)) ((bitE o.wait 8 : Nat) : Int))] 5); have HA := Lib.hid hA; have HI := Lib.hid hI; clear hA hI))
      refine QS_normal (by first | exact HA.out.cells | exact HA.out.drew.cells) (fun _ => ?_)
      refine wpSeq_alone ?_
      ((try simp only [List.getElem_toArray, List.getElem_cons_succ, List.getElem_cons_zero]); refine wpList_app_bytes rfl _ _ rfl (w.heap.size + 1) _ _ rfl HA.out.own _ _ rfl HI.out (by have := HLn.out; (try simp only [List.length_append, List.length_cons, List.length_nil]); omega) (HA.out.size) ?_; intro v3 w3 hown hgr; have hA := HA.out.app hown hgr; have HA := Lib.hid hA; clear hown hgr hA; go_wp2)
      refine QS_normal (by first | exact HA.out.cells | exact HA.out.drew.cells) (fun _ => ?_)
      apply wpSeq_takeK _ (by first | rfl | (simp [Region.wanted, yielded]; done))
      · intro w' hS
        have s0 := hS
        clear hS
        go_simp
        try rfl
      intro K hK
      go_simp
      refine hK _ ?_
      clear hK K
      refine wpSeq_end ?_
      go_wp2
      refine wp_region_N (fun w' => (∀ k, w'.cell? ⟨w.heap.size, k, none⟩ = (cellsO o)[k]?))
        [(true, 0), (true, 1), (true, 2), (true, 5), (true, 6), (true, 7), (true, 10), (true, 11), (true, 12), (false, 3), (false, 4), (false, 8), (false, 9), (false, 13), (false, 14), (true, 15)] (by kernel_rfl) (by kernel_rfl) rfl (by kernel_rfl) ?_ ?_
      · exact (by first | exact HA.out.cells | exact HA.out.drew.cells)
      simp only [List.filterMap_cons, List.filterMap_nil, List.getElem?_cons_succ, List.getElem?_cons_zero, Option.map_some]
      apply wpSeq_takeK _ (by first | rfl | (simp [Region.wanted, yielded]; done))
      · intro w' hS
        have s0 := hS
        clear hS
        go_simp
        try rfl
      intro K hK
      go_simp
      refine hK _ ?_
      clear hK K
      apply wpSeq_takeK _ (by first | rfl | (simp [Region.wanted, yielded]; done))
      · intro w' hS
        have s0 := hS
        clear hS
        go_simp
        try rfl
      intro K hK
      go_simp
      refine hK _ ?_
      clear hK K
      apply wpSeq_takeK _ (by first | rfl | (simp [Region.wanted, yielded]; done))
      · intro w' hS
        have s0 := hS
        clear hS
        go_simp
        try rfl
      intro K hK
      go_simp
      refine hK _ ?_
      clear hK K
      apply wpSeq_takeK _ (by first | rfl | (simp [Region.wanted, yielded]; done))
      · intro w' hS
        have s0 := hS
        clear hS
        go_simp
        try rfl
      intro K hK
      go_simp
      refine hK _ ?_
      clear hK K
      apply wpSeq_takeK _ (by first | rfl | (simp [Region.wanted, yielded]; done))
      · intro w' hS
        have s0 := hS
        clear hS
        go_simp
        try rfl
      intro K hK
      go_simp
      refine hK _ ?_
      clear hK K
      apply wpSeq_takeK _ (by first | rfl | (simp [Region.wanted, yielded]; done))
      · intro w' hS
        have s0 := hS
        clear hS
        go_simp
        try rfl
      intro K hK
      go_simp
      refine hK _ ?_
      clear hK K
      apply wpSeq_takeK _ (by first | rfl | (simp [Region.wanted, yielded]; done))
      · intro w' hS
        have s0 := hS
        clear hS
        go_simp
        try rfl
      intro K hK
      go_simp
      refine hK _ ?_
      clear hK K
      apply wpSeq_takeK _ (by first | rfl | (simp [Region.wanted, yielded]; done))
      · intro w' hS
        have s0 := hS
        clear hS
        go_simp
        try rfl
      intro K hK
      go_simp
      refine hK _ ?_
      clear hK K
      apply wpSeq_takeK _ (by first | rfl | (simp [Region.wanted, yielded]; done))
      · intro w' hS
        have s0 := hS
        clear hS
        go_simp
        try rfl
      intro K hK
      go_simp
      refine hK _ ?_
      clear hK K
      refine wpSeq_alone ?_
      (go_wp2_with (go_at_call 31; refine (rtext_any _ HY.out.2.1 _).mono ?_; rintro e w2 ⟨v2, rfl, ho, hb⟩; have hA := (by first | exact HA.out.call hb | exact HA.out.drew.call hb); have HA := Lib.hid hA; have HI := Lib.hid (OwnB.isB ho); clear ho hb hA))
      refine QS_normal (by first | exact HA.out.cells | exact HA.out.drew.cells) (fun _ => ?_)
      refine wpSeq_alone ?_
      ((try simp only [List.getElem_toArray, List.getElem_cons_succ, List.getElem_cons_zero]); refine wpList_app_bytes rfl _ _ rfl (w.heap.size + 1) _ _ rfl HA.out.own _ _ rfl HI.out (by have := HLn.out; (try simp only [List.length_append, List.length_cons, List.length_nil]); omega) (HA.out.size) ?_; intro v3 w3 hown hgr; have hA := HA.out.app hown hgr; have HA := Lib.hid hA; clear hown hgr hA; go_wp2)
      refine QS_normal (by first | exact HA.out.cells | exact HA.out.drew.cells) (fun _ => ?_)
      refine wpSeq_alone ?_
      (go_wp2_with (go_at_call 32; refine (rnumber_int _ HS1.out _).mono ?_; rintro e w2 ⟨v2, rfl, ho, hb⟩; have hA := (by first | exact HA.out.call hb | exact HA.out.drew.call hb); have HA := Lib.hid hA; have HI := Lib.hid (OwnB.isB ho); clear ho hb hA))
      refine QS_normal (by first | exact HA.out.cells | exact HA.out.drew.cells) (fun _ => ?_)
      refine wpSeq_alone ?_
      ((try simp only [List.getElem_toArray, List.getElem_cons_succ, List.getElem_cons_zero]); refine wpList_app_bytes rfl _ _ rfl (w.heap.size + 1) _ _ rfl HA.out.own _ _ rfl HI.out (by have := HLn.out; (try simp only [List.length_append, List.length_cons, List.length_nil]); omega) (HA.out.size) ?_; intro v3 w3 hown hgr; have hA := HA.out.app hown hgr; have HA := Lib.hid hA; clear hown hgr hA; go_wp2)
      refine QS_normal (by first | exact HA.out.cells | exact HA.out.drew.cells) (fun _ => ?_)
      refine wpSeq_alone ?_
      (go_wp2_with (go_at_call 32; refine (rnumber_int _ HS2.out _).mono ?_; rintro e w2 ⟨v2, rfl, ho, hb⟩; have hA := (by first | exact HA.out.call hb | exact HA.out.drew.call hb); have HA := Lib.hid hA; have HI := Lib.hid (OwnB.isB ho); clear ho hb hA))
      refine QS_normal (by first | exact HA.out.cells | exact HA.out.drew.cells) (fun _ => ?_)
      refine wpSeq_alone ?_
      ((try simp only [List.getElem_toArray, List.getElem_cons_succ, List.getElem_cons_zero]); refine wpList_app_bytes rfl _ _ rfl (w.heap.size + 1) _ _ rfl HA.out.own _ _ rfl HI.out (by have := HLn.out; (try simp only [List.length_append, List.length_cons, List.length_nil]); omega) (HA.out.size) ?_; intro v3 w3 hown hgr; have hA := HA.out.app hown hgr; have HA := Lib.hid hA; clear hown hgr hA; go_wp2)
      refine QS_normal (by first | exact HA.out.cells | exact HA.out.drew.cells) (fun _ => ?_)
      apply wpSeq_takeK _ (by first | rfl | (simp [Region.wanted, yielded]; done))
      · intro w' hS
        have s0 := hS
        clear hS
        go_simp
        try rfl
      intro K hK
      go_simp
      refine hK _ ?_
      clear hK K
      refine wpSeq_end ?_
      go_wp2
      refine wp_region_N (fun w' => (∀ k, w'.cell? ⟨w.heap.size, k, none⟩ = (cellsO o)[k]?))
        [(true, 0), (true, 1), (true, 2), (true, 5), (true, 6), (false, 3), (false, 4), (false, 7), (false, 8), (true, 9)] (by kernel_rfl) (by kernel_rfl) rfl (by kernel_rfl) ?_ ?_
      · exact (by first | exact HA.out.cells | exact HA.out.drew.cells)
      simp only [List.filterMap_cons, List.filterMap_nil, List.getElem?_cons_succ, List.getElem?_cons_zero, Option.map_some]
      apply wpSeq_takeK _ (by first | rfl | (simp [Region.wanted, yielded]; done))
      · intro w' hS
        have s0 := hS
        clear hS
        go_simp
        try rfl
      intro K hK
      go_simp
      refine hK _ ?_
      clear hK K
      apply wpSeq_takeK _ (by first | rfl | (simp [Region.wanted, yielded]; done))
      · intro w' hS
        have s0 := hS
        clear hS
        go_simp
        try rfl
      intro K hK
      go_simp
      refine hK _ ?_
      clear hK K
      apply wpSeq_takeK _ (by first | rfl | (simp [Region.wanted, yielded]; done))
      · intro w' hS
        have s0 := hS
        clear hS
        go_simp
        try rfl
      intro K hK
      go_simp
      refine hK _ ?_
      clear hK K
      apply wpSeq_takeK _ (by first | rfl | (simp [Region.wanted, yielded]; done))
      · intro w' hS
        have s0 := hS
        clear hS
        go_simp
        try rfl
      intro K hK
      go_simp
      refine hK _ ?_
      clear hK K
      apply wpSeq_takeK _ (by first | rfl | (simp [Region.wanted, yielded]; done))
      · intro w' hS
        have s0 := hS
        clear hS
        go_simp
        try rfl
      intro K hK
      go_simp
      refine hK _ ?_
      clear hK K
      refine wpSeq_alone ?_
      (go_wp2; (have hI := HA.out.drew.litI (o.mode) HT.out.mode; have hA := HA.out.drew.alloc (.cells #[.int .u8 (o.mode)] 5); have HA := Lib.hid hA; have HI := Lib.hid hI; clear hA hI))
      refine QS_normal (by first | exact HA.out.cells | exact HA.out.drew.cells) (fun _ => ?_)
      refine wpSeq_alone ?_
      ((try simp only [List.getElem_toArray, List.getElem_cons_succ, List.getElem_cons_zero]); refine wpList_app_bytes rfl _ _ rfl (w.heap.size + 1) _ _ rfl HA.out.own _ _ rfl HI.out (by have := HLn.out; (try simp only [List.length_append, List.length_cons, List.length_nil]); omega) (HA.out.size) ?_; intro v3 w3 hown hgr; have hA := HA.out.app hown hgr; have HA := Lib.hid hA; clear hown hgr hA; go_wp2)
      refine QS_normal (by first | exact HA.out.cells | exact HA.out.drew.cells) (fun _ => ?_)
      refine wpSeq_alone ?_
      (go_wp2_with (go_at_call 31; refine (rtext_any _ HY.out.2.2.1 _).mono ?_; rintro e w2 ⟨v2, rfl, ho, hb⟩; have hA := (by first | exact HA.out.call hb | exact HA.out.drew.call hb); have HA := Lib.hid hA; have HI := Lib.hid (OwnB.isB ho); clear ho hb hA))
      refine QS_normal (by first | exact HA.out.cells | exact HA.out.drew.cells) (fun _ => ?_)
      refine wpSeq_alone ?_
      ((try simp only [List.getElem_toArray, List.getElem_cons_succ, List.getElem_cons_zero]); refine wpList_app_bytes rfl _ _ rfl (w.heap.size + 1) _ _ rfl HA.out.own _ _ rfl HI.out (by have := HLn.out; (try simp only [List.length_append, List.length_cons, List.length_nil]); omega) (HA.out.size) ?_; intro v3 w3 hown hgr; have hA := HA.out.app hown hgr; have HA := Lib.hid hA; clear hown hgr hA; go_wp2)
      refine QS_normal (by first | exact HA.out.cells | exact HA.out.drew.cells) (fun _ => ?_)
      apply wpSeq_takeK _ (by first | rfl | (simp [Region.wanted, yielded]; done))
      · intro w' hS
        have s0 := hS
        clear hS
        go_simp
        try rfl
      intro K hK
      go_simp
      refine hK _ ?_
      clear hK K
      refine wpSeq_end ?_
      go_wp2
      refine wp_region_N (fun w' => (∀ k, w'.cell? ⟨w.heap.size, k, none⟩ = (cellsO o)[k]?))
        [(true, 0), (true, 1), (true, 2), (true, 5), (true, 6), (true, 9), (true, 10), (true, 13), (true, 14), (false, 3), (false, 4), (false, 7), (false, 8), (false, 11), (false, 12), (false, 15), (false, 16), (true, 17)] (by kernel_rfl) (by kernel_rfl) rfl (by kernel_rfl) ?_ ?_
      · exact (by first | exact HA.out.cells | exact HA.out.drew.cells)
      simp only [List.filterMap_cons, List.filterMap_nil, List.getElem?_cons_succ, List.getElem?_cons_zero, Option.map_some]
      apply wpSeq_takeK _ (by first | rfl | (simp [Region.wanted, yielded]; done))
      · intro w' hS
        have s0 := hS
        clear hS
        go_simp
        try rfl
      intro K hK
      go_simp
      refine hK _ ?_
      clear hK K
      apply wpSeq_takeK _ (by first | rfl | (simp [Region.wanted, yielded]; done))
      · intro w' hS
        have s0 := hS
        clear hS
        go_simp
        try rfl
      intro K hK
      go_simp
      refine hK _ ?_
      clear hK K
      apply wpSeq_takeK _ (by first | rfl | (simp [Region.wanted, yielded]; done))
      · intro w' hS
        have s0 := hS
        clear hS
        go_simp
        try rfl
      intro K hK
      go_simp
      refine hK _ ?_
      clear hK K
      apply wpSeq_takeK _ (by first | rfl | (simp [Region.wanted, yielded]; done))
      · intro w' hS
        have s0 := hS
        clear hS
        go_simp
        try rfl
      intro K hK
      go_simp
      refine hK _ ?_
      clear hK K
      apply wpSeq_takeK _ (by first | rfl | (simp [Region.wanted, yielded]; done))
      · intro w' hS
        have s0 := hS
        clear hS
        go_simp
        try rfl
      intro K hK
      go_simp
      refine hK _ ?_
      clear hK K
      apply wpSeq_takeK _ (by first | rfl | (simp [Region.wanted, yielded]; done))
      · intro w' hS
        have s0 := hS
        clear hS
        go_simp
        try rfl
      intro K hK
      go_simp
      refine hK _ ?_
      clear hK K
      apply wpSeq_takeK _ (by first | rfl | (simp [Region.wanted, yielded]; done))
      · intro w' hS
        have s0 := hS
        clear hS
        go_simp
        try rfl
      intro K hK
      go_simp
      refine hK _ ?_
      clear hK K
      apply wpSeq_takeK _ (by first | rfl | (simp [Region.wanted, yielded]; done))
      · intro w' hS
        have s0 := hS
        clear hS
        go_simp
        try rfl
      intro K hK
      go_simp
      refine hK _ ?_
      clear hK K
      apply wpSeq_takeK _ (by first | rfl | (simp [Region.wanted, yielded]; done))
      · intro w' hS
        have s0 := hS
        clear hS
        go_simp
        try rfl
      intro K hK
      go_simp
      refine hK _ ?_
      clear hK K
      refine wpSeq_alone ?_
      (go_wp2_with (go_at_call 31; refine (rtext_any _ HY.out.2.2.2.1 _).mono ?_; rintro e w2 ⟨v2, rfl, ho, hb⟩; have hA := (by first | exact HA.out.call hb | exact HA.out.drew.call hb); have HA := Lib.hid hA; have HI := Lib.hid (OwnB.isB ho); clear ho hb hA))
      refine QS_normal (by first | exact HA.out.cells | exact HA.out.drew.cells) (fun _ => ?_)
      refine wpSeq_alone ?_
      ((try simp only [List.getElem_toArray, List.getElem_cons_succ, List.getElem_cons_zero]); refine wpList_app_bytes rfl _ _ rfl (w.heap.size + 1) _ _ rfl HA.out.own _ _ rfl HI.out (by have := HLn.out; (try simp only [List.length_append, List.length_cons, List.length_nil]); omega) (HA.out.size) ?_; intro v3 w3 hown hgr; have hA := HA.out.app hown hgr; have HA := Lib.hid hA; clear hown hgr hA; go_wp2)
      refine QS_normal (by first | exact HA.out.cells | exact HA.out.drew.cells) (fun _ => ?_)
      refine wpSeq_alone ?_
      (go_wp2_with (go_at_call 31; refine (rtext_any _ HY.out.2.2.2.2.1 _).mono ?_; rintro e w2 ⟨v2, rfl, ho, hb⟩; have hA := (by first | exact HA.out.call hb | exact HA.out.drew.call hb); have HA := Lib.hid hA; have HI := Lib.hid (OwnB.isB ho); clear ho hb hA))
      refine QS_normal (by first | exact HA.out.cells | exact HA.out.drew.cells) (fun _ => ?_)
      refine wpSeq_alone ?_
      ((try simp only [List.getElem_toArray, List.getElem_cons_succ, List.getElem_cons_zero]); refine wpList_app_bytes rfl _ _ rfl (w.heap.size + 1) _ _ rfl HA.out.own _ _ rfl HI.out (by have := HLn.out; (try simp only [List.length_append, List.length_cons, List.length_nil]); omega) (HA.out.size) ?_; intro v3 w3 hown hgr; have hA := HA.out.app hown hgr; have HA := Lib.hid hA; clear hown hgr hA; go_wp2)
      refine QS_normal (by first | exact HA.out.cells | exact HA.out.drew.cells) (fun _ => ?_)
      refine wpSeq_alone ?_
      (go_wp2_with (go_at_call 31; refine (rtext_any _ HY.out.2.2.2.2.2.1 _).mono ?_; rintro e w2 ⟨v2, rfl, ho, hb⟩; have hA := (by first | exact HA.out.call hb | exact HA.out.drew.call hb); have HA := Lib.hid hA; have HI := Lib.hid (OwnB.isB ho); clear ho hb hA))
      refine QS_normal (by first | exact HA.out.cells | exact HA.out.drew.cells) (fun _ => ?_)
      refine wpSeq_alone ?_
      ((try simp only [List.getElem_toArray, List.getElem_cons_succ, List.getElem_cons_zero]); refine wpList_app_bytes rfl _ _ rfl (w.heap.size + 1) _ _ rfl HA.out.own _ _ rfl HI.out (by have := HLn.out; (try simp only [List.length_append, List.length_cons, List.length_nil]); omega) (HA.out.size) ?_; intro v3 w3 hown hgr; have hA := HA.out.app hown hgr; have HA := Lib.hid hA; clear hown hgr hA; go_wp2)
      refine QS_normal (by first | exact HA.out.cells | exact HA.out.drew.cells) (fun _ => ?_)
      refine wpSeq_alone ?_
      (go_wp2_with (go_at_call 31; refine (rtext_any _ HY.out.2.2.2.2.2.2 _).mono ?_; rintro e w2 ⟨v2, rfl, ho, hb⟩; have hA := (by first | exact HA.out.call hb | exact HA.out.drew.call hb); have HA := Lib.hid hA; have HI := Lib.hid (OwnB.isB ho); clear ho hb hA))
      refine QS_normal (by first | exact HA.out.cells | exact HA.out.drew.cells) (fun _ => ?_)
      refine wpSeq_alone ?_
      ((try simp only [List.getElem_toArray, List.getElem_cons_succ, List.getElem_cons_zero]); refine wpList_app_bytes rfl _ _ rfl (w.heap.size + 1) _ _ rfl HA.out.own _ _ rfl HI.out (by have := HLn.out; (try simp only [List.length_append, List.length_cons, List.length_nil]); omega) (HA.out.size) ?_; intro v3 w3 hown hgr; have hA := HA.out.app hown hgr; have HA := Lib.hid hA; clear hown hgr hA; go_wp2)
      refine QS_normal (by first | exact HA.out.cells | exact HA.out.drew.cells) (fun _ => ?_)
      apply wpSeq_takeK _ (by first | rfl | (simp [Region.wanted, yielded]; done))
      · intro w' hS
        have s0 := hS
        clear hS
        go_simp
        try rfl
      intro K hK
      go_simp
      refine hK _ ?_
      clear hK K
      refine wpSeq_end ?_
      go_wp2
      refine wp_region_N (fun w' => (∀ k, w'.cell? ⟨w.heap.size, k, none⟩ = (cellsO o)[k]?))
        [(true, 0), (true, 1), (true, 2), (true, 5), (true, 6), (false, 3), (false, 4), (false, 7), (false, 8), (true, 9)] (by kernel_rfl) (by kernel_rfl) rfl (by kernel_rfl) ?_ ?_
      · exact (by first | exact HA.out.cells | exact HA.out.drew.cells)
      simp only [List.filterMap_cons, List.filterMap_nil, List.getElem?_cons_succ, List.getElem?_cons_zero, Option.map_some]
      apply wpSeq_takeK _ (by first | rfl | (simp [Region.wanted, yielded]; done))
      · intro w' hS
        have s0 := hS
        clear hS
        go_simp
        try rfl
      intro K hK
      go_simp
      refine hK _ ?_
      clear hK K
      apply wpSeq_takeK _ (by first | rfl | (simp [Region.wanted, yielded]; done))
      · intro w' hS
        have s0 := hS
        clear hS
        go_simp
        try rfl
      intro K hK
      go_simp
      refine hK _ ?_
      clear hK K
      apply wpSeq_takeK _ (by first | rfl | (simp [Region.wanted, yielded]; done))
      · intro w' hS
        have s0 := hS
        clear hS
        go_simp
        try rfl
      intro K hK
      go_simp
      refine hK _ ?_
      clear hK K
      apply wpSeq_takeK _ (by first | rfl | (simp [Region.wanted, yielded]; done))
      · intro w' hS
        have s0 := hS
        clear hS
        go_simp
        try rfl
      intro K hK
      go_simp
      refine hK _ ?_
      clear hK K
      apply wpSeq_takeK _ (by first | rfl | (simp [Region.wanted, yielded]; done))
      · intro w' hS
        have s0 := hS
        clear hS
        go_simp
        try rfl
      intro K hK
      go_simp
      refine hK _ ?_
      clear hK K
      refine wpSeq_alone ?_
      (go_wp2; (have hI := HA.out.drew.litI (o.phase) HT.out.phase; have hA := HA.out.drew.alloc (.cells #[.int .u8 (o.phase)] 5); have HA := Lib.hid hA; have HI := Lib.hid hI; clear hA hI))
      refine QS_normal (by first | exact HA.out.cells | exact HA.out.drew.cells) (fun _ => ?_)
      refine wpSeq_alone ?_
      ((try simp only [List.getElem_toArray, List.getElem_cons_succ, List.getElem_cons_zero]); refine wpList_app_bytes rfl _ _ rfl (w.heap.size + 1) _ _ rfl HA.out.own _ _ rfl HI.out (by have := HLn.out; (try simp only [List.length_append, List.length_cons, List.length_nil]); omega) (HA.out.size) ?_; intro v3 w3 hown hgr; have hA := HA.out.app hown hgr; have HA := Lib.hid hA; clear hown hgr hA; go_wp2)
      refine QS_normal (by first | exact HA.out.cells | exact HA.out.drew.cells) (fun _ => ?_)
      refine wpSeq_alone ?_
      (go_wp2_with (go_at_call 32; refine (rnumber_int _ HT.out.num _).mono ?_; rintro e w2 ⟨v2, rfl, ho, hb⟩; have hA := (by first | exact HA.out.call hb | exact HA.out.drew.call hb); have HA := Lib.hid hA; have HI := Lib.hid (OwnB.isB ho); clear ho hb hA))
      refine QS_normal (by first | exact HA.out.cells | exact HA.out.drew.cells) (fun _ => ?_)
      refine wpSeq_alone ?_
      ((try simp only [List.getElem_toArray, List.getElem_cons_succ, List.getElem_cons_zero]); refine wpList_app_bytes rfl _ _ rfl (w.heap.size + 1) _ _ rfl HA.out.own _ _ rfl HI.out (by have := HLn.out; (try simp only [List.length_append, List.length_cons, List.length_nil]); omega) (HA.out.size) ?_; intro v3 w3 hown hgr; have hA := HA.out.app hown hgr; have HA := Lib.hid hA; clear hown hgr hA; go_wp2)
      refine QS_normal (by first | exact HA.out.cells | exact HA.out.drew.cells) (fun _ => ?_)
      apply wpSeq_takeK _ (by first | rfl | (simp [Region.wanted, yielded]; done))
      · intro w' hS
        have s0 := hS
        clear hS
        go_simp
        try rfl
      intro K hK
      go_simp
      refine hK _ ?_
      clear hK K
      refine wpSeq_end ?_
      have hS9 := HA.out.cells
      go_wp2_with (first
        | (go_at_call 32; refine (rnumber_int _ HT.out.tag _).mono ?_; rintro e w2 ⟨v2, rfl, ho, hb⟩; have hA := (by first | exact HA.out.call hb | exact HA.out.drew.call hb); have HA := Lib.hid hA; have HI := Lib.hid (OwnB.isB ho); clear ho hb hA)
        | (at_builtin; refine wpList_app_bytes rfl _ _ rfl (w.heap.size + 1) _ _ rfl HA.out.own _ _ rfl HI.out (by have := HLn.out; (try simp only [List.length_append, List.length_cons, List.length_nil]); omega) (HA.out.size) ?_; intro v3 w3 hown hgr; have hA := HA.out.app hown hgr; have HA := Lib.hid hA; clear hown hgr hA))
      have hO : OwnB w3 (w.heap.size + 1) v3 (objE o) := by have := HA.out.own; simpa only [objE, to8, or_flags, u8_ofNat, List.append_assoc] using this
      go_ret2
      exact BytesR.yes rfl hO (Nat.le_succ _) HA.out.below

end Go.Proofs.Ytgplolfkfhhddaa
