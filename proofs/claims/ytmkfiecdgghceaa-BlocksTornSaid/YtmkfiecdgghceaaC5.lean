/- Layer 5 (blocks): the document's Records, Append, Clean. -/
import Derived.Test.YtmkfiecdgghceaaC4
namespace Go.Proofs.Ytmkfiecdgghceaa
open Go.RowKit
set_option linter.unusedVariables false
set_option linter.unusedSimpArgs false

def RecsPost (w : World) (rs : List Bs) (e : Ending) (w' : World) : Prop := ∃ u, e = .returned u ∧ OwnRows w' w.heap.size u rs ∧ Below w.heap.size w w'
set_option maxHeartbeats 1000000 in
theorem recordsR_any (w : World) (B q : Nat) (v : Value) (n : Nat) (bs : Bs) (last most : Nat) (rs : List Bs) (h : RefAt w B q v bs last most) (hnl : bs.length = n * 64) (hrs : Parsed bs rs) :
    Calls Try.prog 38 #[.pointer (some ⟨q, 0, none⟩)] w (RecsPost w rs) := by
  have H := Lib.hid h
  have HRS := Lib.hid hrs
  have HNL := Lib.hid hnl
  clear h hnl hrs
  go_enter Try.func38, Try.ntmps38
  go_wp2_with (go_at_call 47; refine (whole_any w B q v n bs last most rs H.out HNL.out HRS.out).mono ?_; rintro e w2 ⟨u, rfl, ho, hb⟩; have HO := Lib.hid ho; have HB := Lib.hid hb; obtain ⟨au, cu, rfl⟩ := ho.lv; clear ho hb)
  go_ret
  exact ⟨_, rfl, HO.out, HB.out⟩
set_option maxHeartbeats 1000000 in
theorem count_any (w : World) (B q : Nat) (v : Value) (n : Nat) (bs : Bs) (last most : Nat) (rs : List Bs) (h : RefAt w B q v bs last most) (hnl : bs.length = n * 64) (hrs : Parsed bs rs) :
    Calls Try.prog 49 #[.pointer (some ⟨q, 0, none⟩)] w fun e w' => e = .returned (.int .i64 (rs.length : Nat)) ∧ Below w.heap.size w w' := by
  have H := Lib.hid h
  have HRS := Lib.hid hrs
  have HNL := Lib.hid hnl
  clear h hnl hrs
  go_enter Try.func49, Try.ntmps49
  go_wp2_with (go_at_call 38; refine (recordsR_any w B q v n bs last most rs H.out HNL.out HRS.out).mono ?_; rintro e w2 ⟨u, rfl, ho, hb⟩; have HB := Lib.hid hb; obtain ⟨au, cu, rfl⟩ := ho.lv; clear ho hb)
  go_ret
  exact ⟨rfl, HB.out⟩

set_option maxHeartbeats 1000000 in
theorem appendR_bad (w : World) (q : Nat) (a : Option Addr) (n c : Nat) (hn : n ≤ maxLen) (hb : n < 1 ∨ 1024 < n) : Calls Try.prog 39 #[.pointer (some ⟨q, 0, none⟩), .slice a n c] w fun e w' => e = .returned (.int .i64 3) ∧ w' = w := by
  unfold maxLen at hn
  by_cases h1 : n < 1
  · obtain rfl : n = 0 := by omega
    go_enter Try.func39, Try.ntmps39
    go_wp2
    go_ret
    exact ⟨rfl, rfl⟩
  · have h2 : 1024 < n := by omega
    have h3 : ¬ (n : Int) < 1 := by omega
    have h4 : (1024 : Int) < (n : Int) := by omega
    go_enter Try.func39, Try.ntmps39
    go_wp2
    go_ret
    exact ⟨rfl, rfl⟩

set_option maxHeartbeats 1000000 in
theorem appendR_full (w : World) (B q : Nat) (v : Value) (m : Nat) (bs : Bs) (last most : Nat) (h : RefAt w B q v bs last most) (hml : bs.length = m * 64) (a : Option Addr) (n c : Nat) (h1 : 1 ≤ n) (h2 : n ≤ 1024) (hb : most - m < needN n) :
    Calls Try.prog 39 #[.pointer (some ⟨q, 0, none⟩), .slice a n c] w fun e w' => e = .returned (.int .i64 7) ∧ Below w.heap.size w w' := by
  have H := Lib.hid h
  have HML := Lib.hid hml
  have hm := h.hm
  have hn := h.hn
  obtain ⟨N, hN⟩ : ∃ N, N = needN n := ⟨_, rfl⟩
  have hN1 := needN_of h1 h2
  have hneed := fun w => needRN_any n w
  rw [← hN] at hb hN1 hneed
  have hx : (most : Int) - (m : Int) < (N : Int) := by omega
  have h3 : ¬ (n : Int) < 1 := by omega
  have h4 : ¬ (1024 : Int) < (n : Int) := by omega
  clear h hN hml
  go_enter Try.func39, Try.ntmps39
  go_wp2_with (first | (go_at_call 15; refine (hneed _).mono ?_; rintro e w' ⟨rfl, hw⟩; obtain rfl := hw.symm) | (go_at_call 37; refine (freeR_any _ B q v m bs last most H.out HML.out).mono ?_; rintro e w2 ⟨rfl, hb2⟩; have HB2 := Lib.hid hb2; clear hb2))
  go_ret
  exact ⟨rfl, HB2.out⟩

def AppendRPost (w : World) (B q : Nat) (v : Value) (bs' : Bs) (last most : Nat) (e : Ending) (w' : World) : Prop :=
  e = .returned (.int .i64 0) ∧ ∃ u, RefAt w' B q u bs' last most ∧ (∀ k, u.ownBlock = some k → w.heap.size ≤ k) ∧ Keeps (fun i => i = q) w w'
set_option maxRecDepth 100000 in
set_option maxHeartbeats 2000000 in
theorem appendR_any (w : World) (B q : Nat) (v : Value) (m : Nat) (bs : Bs) (last most : Nat) (rs : List Bs) (h : RefAt w B q v bs last most) (hml : bs.length = m * 64) (hrs : Parsed bs rs) (l : Bs) (x : Value) (h1 : 1 ≤ l.length) (h2 : l.length ≤ 1024) (hx : IsB w x l) (hroom : needN l.length ≤ most - m) :
    Calls Try.prog 39 #[.pointer (some ⟨q, 0, none⟩), x] w (AppendRPost w B q v (bs ++ recd l (rs.length + 1)) last most) := by
  have H := Lib.hid h
  have HML := Lib.hid hml
  have HRS := Lib.hid hrs
  have HX := Lib.hid hx
  have hm := h.hm
  have hn := h.hn
  have hl := h.hl
  obtain ⟨ax, cx, rfl, _⟩ := hx.rd
  obtain ⟨av, cv, rfl⟩ := h.lv
  obtain ⟨N, hN⟩ : ∃ N, N = needN l.length := ⟨_, rfl⟩
  have hN1 := needN_of h1 h2
  have hneed := fun w => needRN_any l.length w
  rw [← hN] at hroom hN1 hneed
  have HN := Lib.hid hN
  have hN17 : N ≤ 17 := by omega
  have hx : ¬ (most : Int) - (m : Int) < (N : Int) := by omega
  have hxb : decide ((most : Int) - (m : Int) < (N : Int)) = false := by simp; omega
  have h3 : ¬ (l.length : Int) < 1 := by omega
  have h4 : ¬ (1024 : Int) < (l.length : Int) := by omega
  have hrl : rs.length ≤ 4096 := by
    obtain ⟨g, rest, e, _⟩ := HRS.out
    have h1 := count_le g 0
    have h2 : (encs rs 0).length ≤ bs.length := by rw [e]; simp
    omega
  obtain ⟨c0, f0⟩ := cells_of_block h.cells 0 (.slice av bs.length cv) rfl
  have hwm : ((rs.length : Int) + 1).tmod 65536 = (rs.length : Int) + 1 := by rw [Int.tmod_eq_emod_of_nonneg (by omega)]; omega
  have hwm2 : ((rs.length : Int) + 1) % 65536 = (rs.length : Int) + 1 := by omega
  clear h hN hml hN1
  go_enter Try.func39, Try.ntmps39
  go_wp2_with (first
    | (go_at_call 15; refine (hneed _).mono ?_; rintro e w' ⟨rfl, hw⟩; obtain rfl := hw.symm)
    | (go_at_call 37; refine (freeR_any _ B q _ m bs last most H.out HML.out).mono ?_; rintro e w2 ⟨rfl, hb2⟩; have HB2 := Lib.hid hb2; have HR2 := Lib.hid (H.out.below hb2); have k2 := (cells_of_block HR2.out.cells 0 (.slice av bs.length cv) rfl).1; clear hb2)
    | (at_builtin; refine wpList_app_bytes rfl _ _ rfl w2.heap.size (.slice none 0 0) [] rfl (World.ownsRow_nil _ _ _ _) (.slice av bs.length cv) bs rfl HR2.out.row.isB (by simp; omega) (Nat.le_refl _) ?_; intro v3 w3 ho3 hg3; obtain ⟨a3, c3, rfl⟩ := OwnB.lv (l := bs) ho3; have HO3 := Lib.hid (show OwnB w3 w2.heap.size (.slice a3 bs.length c3) bs from ho3); have HB3 := Lib.hid ((Below.refl w2.heap.size w2).grown hg3 (Nat.le_refl _) (fun k e => by simp [Value.ownBlock] at e)); have HR3 := Lib.hid (HR2.out.below HB3.out); clear ho3 hg3)
    | (go_at_call 49; refine (count_any _ B q _ m bs last most rs HR3.out HML.out HRS.out).mono ?_; rintro e w4 ⟨rfl, hb4⟩; have HB4 := Lib.hid hb4; have HX4 := Lib.hid (((HX.out.below HB2.out).below HB3.out).below hb4); clear hb4)
    | (go_at_call 48; refine (record_any l (rs.length + 1) _ (by omega) _ _ h1 h2 (by omega) HX4.out).mono ?_; rintro e w5 ⟨v5, rfl, ho5, hb5⟩; have HO5 := Lib.hid ho5; have HB5 := Lib.hid hb5; clear ho5 hb5)
    | (at_builtin; refine wpList_app_bytes rfl _ _ rfl w2.heap.size (.slice a3 bs.length c3) bs rfl (ownsRow_of_heap HO3.out fun k hk => (HB5.out.block k (Nat.lt_of_lt_of_le (HO3.out.lt k hk).2 HB4.out.size)).trans (HB4.out.block k (HO3.out.lt k hk).2)) _ (recd l (rs.length + 1)) rfl HO5.out.isB (by rw [recd_length _ h1 h2, ← HN.out]; omega) (Nat.le_trans HB3.out.size (Nat.le_trans HB4.out.size HB5.out.size)) ?_; intro v6 w6 ho6 hg6; obtain ⟨a6, c6, rfl⟩ := ho6.lv; have HB5' := Lib.hid (((HB2.out.trans (HB3.out.mono HB2.out.size)).trans (HB4.out.mono (Nat.le_trans HB2.out.size HB3.out.size))).trans (HB5.out.mono (Nat.le_trans (Nat.le_trans HB2.out.size HB3.out.size) HB4.out.size))); have HB6 := Lib.hid (HB5'.out.grown hg6 HB5'.out.size (fun k e => Nat.le_trans HB2.out.size (HO3.out.lt k e).1)); have HCQ := Lib.hid ((HB6.out.block q (heap_lt H.out.cells)).trans H.out.cells); obtain ⟨k6, f6⟩ := cells_of_block HCQ.out 0 (.slice av bs.length cv) rfl; have HO6 := Lib.hid (show OwnB w6 w2.heap.size (.slice a6 (bs ++ recd l (rs.length + 1)).length c6) (bs ++ recd l (rs.length + 1)) from ho6); clear ho6 hg6))
  have hml2 : (bs ++ recd l (rs.length + 1)).length = (m + N) * 64 := by rw [List.length_append, recd_length _ h1 h2, ← HN.out, HML.out, Nat.add_mul]
  have HM2 := Lib.hid hml2
  clear hml2
  go_ret
  refine ⟨rfl, .slice a6 (bs ++ recd l (rs.length + 1)).length c6, ⟨by rw [heap_setCell_same HCQ.out]; simp, ownsRow_of_heap (ownsRow_mono HO6.out (Nat.le_trans (Nat.le_of_lt (Nat.lt_of_le_of_lt H.out.base (heap_lt H.out.cells))) HB2.out.size)) fun k hk => heap_setCell_ne fun e => ?_, H.out.base, ?_, ?_, hm⟩, fun k hk => Nat.le_trans HB2.out.size (HO6.out.lt k hk).1, (Keeps.of_below (F := fun i => i = q) HB6.out).setCell (p := ⟨q, 0, none⟩) (fun _ => rfl) _⟩
  · have h1 := (HO6.out.lt k hk).1
    have h2 := heap_lt H.out.cells
    have h3 := HB2.out.size
    have h4 : k = q := e
    omega
  · rw [List.length_append]; omega
  · rw [HM2.out]; have := HML.out; omega

theorem IsB.take {w : World} {a : Option Addr} {c M : Nat} {bs : Bs} (h : IsB w (.slice a bs.length c) bs) (hM : M ≤ bs.length) : IsB w (.slice a M c) (bs.take M) := by
  rcases h with ⟨hv, hb⟩ | ⟨b, o, c', hv, h1, h2, h3⟩
  · simp only [Value.slice.injEq] at hv
    obtain ⟨rfl, h0, rfl⟩ := hv
    have : M = 0 := by omega
    subst this
    exact .inl ⟨rfl, by simp⟩
  · simp only [Value.slice.injEq, true_and] at hv
    obtain ⟨rfl, rfl⟩ := hv
    refine .inr ⟨b, o, c, by rw [List.length_take, Nat.min_eq_left hM], by rw [List.length_take]; omega, h2, fun k hk => ?_⟩
    rw [List.length_take] at hk
    rw [List.getElem_take]
    exact h3 k (by omega)

def CleanRPost (w : World) (B q : Nat) (rs : List Bs) (most : Nat) (e : Ending) (w' : World) : Prop :=
  e = .returned (.int .i64 0) ∧ ∃ u, RefAt w' B q u (encs rs 0) (encs rs 0).length most ∧ (∀ k, u.ownBlock = some k → w.heap.size ≤ k) ∧ Keeps (fun i => i = q) w w'
set_option maxRecDepth 100000 in
set_option maxHeartbeats 2000000 in
theorem cleanR_any (w : World) (B q : Nat) (v : Value) (n : Nat) (bs : Bs) (last most : Nat) (rs : List Bs) (h : RefAt w B q v bs last most) (hnl : bs.length = n * 64) (hrs : Parsed bs rs) :
    Calls Try.prog 42 #[.pointer (some ⟨q, 0, none⟩)] w (CleanRPost w B q rs most) := by
  have H := Lib.hid h
  have HRS := Lib.hid hrs
  have HNL := Lib.hid hnl
  have hm := h.hm
  have hn := h.hn
  obtain ⟨av, cv, rfl⟩ := h.lv
  have hM : ∃ M, (encs rs 0).length = M := ⟨_, rfl⟩
  obtain ⟨M, hM⟩ := hM
  have hE : bs.take M = encs rs 0 := by
    obtain ⟨_, rest, e, _⟩ := hrs
    rw [← hM, e]; simp
  have hMn : M ≤ bs.length := by
    have := congrArg List.length hE
    rw [List.length_take, hM] at this
    omega
  have hcap : bs.length ≤ cv ∧ cv ≤ maxLen := by
    rcases h.row.isB with ⟨hv, hb⟩ | ⟨b, o, c', hv, h1, h2, _⟩
    · simp only [Value.slice.injEq] at hv
      rw [hb]; simp
      rw [hv.2.2]; unfold maxLen; omega
    · simp only [Value.slice.injEq, true_and] at hv; omega
  obtain ⟨hcap, hcapm⟩ := hcap
  have HM := Lib.hid hM
  have HE := Lib.hid hE
  clear h hnl hrs hM hE
  go_enter Try.func42, Try.ntmps42
  go_wp2_with (first
    | (go_at_call 47; refine (whole_any w B q _ n bs last most rs H.out HNL.out HRS.out).mono ?_; rintro e w2 ⟨u, rfl, ho, hb⟩; rw [HM.out]; have HB2 := Lib.hid hb; obtain ⟨au, cu, rfl⟩ := ho.lv; have HR2 := Lib.hid (H.out.below hb); have k2 := (cells_of_block HR2.out.cells 0 (.slice av bs.length cv) rfl).1; have k2a : ∀ o, (w2.alloc o).cell? ⟨q, 0, none⟩ = some (.slice av bs.length cv) := fun o => (Below.cell ((Below.refl w2.heap.size w2).alloc (Nat.le_refl _) o) (heap_lt HR2.out.cells)).trans k2; clear ho hb)
    | (at_builtin; refine wpList_app_bytes rfl _ _ rfl w2.heap.size (.slice (some ⟨w2.heap.size, 0, none⟩) 0 0) [] rfl (World.ownsRow_made w2 _ 0 (Nat.le_refl _) (by unfold maxLen; omega) rfl) _ (bs.take M) rfl ((HR2.out.row.isB.take hMn).below ((Below.refl w2.heap.size w2).alloc (Nat.le_refl _) _)) (by simp; omega) (by simp) ?_; intro v3 w3 ho3 hg3; rw [List.nil_append, HE.out] at ho3; have HO3 := Lib.hid ho3; have HB3 := Lib.hid (((Below.refl w2.heap.size w2).alloc (Nat.le_refl _) (.cells #[] 5)).grown hg3 (by simp) (fun k e => by simp [Value.ownBlock] at e; omega)); obtain ⟨a3, c3, rfl⟩ := ho3.lv; have HR3 := Lib.hid ((HB3.out.block q (heap_lt HR2.out.cells)).trans HR2.out.cells); obtain ⟨k3, f3⟩ := cells_of_block HR3.out 0 (.slice av bs.length cv) rfl; obtain ⟨k4, f4⟩ := cells_of_block HR3.out 1 (.int .i64 (last : Int)) rfl; clear ho3 hg3))
  go_wp2
  go_ret
  have hqs : ∀ x, (w3.setCell ⟨q, 0, none⟩ x).heap[q]? = some (.cells #[x, .int .i64 (last : Int), .int .i64 (most : Int)] 69 (0, 0)) := fun x => by rw [heap_setCell_same HR3.out]; rfl
  have hne : ∀ k, (Value.slice a3 (encs rs 0).length c3).ownBlock = some k → k ≠ q := fun k hk e => by
    have h1 := (HO3.out.lt k hk).1
    have h2 := heap_lt H.out.cells
    have h3 := HB2.out.size
    omega
  refine ⟨rfl, .slice a3 (encs rs 0).length c3, ⟨by rw [heap_setCell_same (hqs _), HM.out]; rfl, ownsRow_of_heap (ownsRow_mono HO3.out (Nat.le_trans (Nat.le_of_lt (Nat.lt_of_le_of_lt H.out.base (heap_lt H.out.cells))) HB2.out.size)) fun k hk => (heap_setCell_ne (hne k hk)).trans (heap_setCell_ne (hne k hk)), H.out.base, Nat.le_refl _, by rw [HM.out]; omega, hm⟩, fun k hk => Nat.le_trans HB2.out.size (HO3.out.lt k hk).1,
    ((Keeps.of_below (F := fun i => i = q) (HB2.out.trans (HB3.out.mono HB2.out.size))).setCell (p := ⟨q, 0, none⟩) (fun _ => rfl) _).setCell (p := ⟨q, 1, none⟩) (fun _ => rfl) _⟩

end Go.Proofs.Ytmkfiecdgghceaa
