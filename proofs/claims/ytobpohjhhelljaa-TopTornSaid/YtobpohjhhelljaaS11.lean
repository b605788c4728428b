/- Layer 6 (store): Since from the beginning; a copy of events: the program's. -/
import Derived.Test.YtobpohjhhelljaaS10
namespace Go.Proofs.Ytobpohjhhelljaa
open Go.RowKit
set_option linter.unusedVariables false
set_option linter.unusedSimpArgs false


theorem evs_cell {w : World} {b o : Nat} {l : List Ev} (h : ∀ i e, l[i]? = some e → ∀ k, k < 22 → w.cell? ⟨b, o + i * 22 + k, none⟩ = (cellsEv e)[k]?) : ∀ j u, (l.flatMap cellsE)[j]? = some u → w.cell? ((⟨b, o, none⟩ : Addr).add j) = some u := by
  intro j u hu
  have hj : j = (j / 22) * 22 + j % 22 := by omega
  have hk : j % 22 < 22 := Nat.mod_lt _ (by decide)
  rw [hj, flatN 22 cellsE cellsE_len l (j / 22) (j % 22) hk] at hu
  cases hl : l[j / 22]? with
  | none => rw [hl] at hu; cases hu
  | some e =>
    rw [hl] at hu
    have h2 := h (j / 22) e hl (j % 22) hk
    rw [Addr.add_lit, show o + j = o + j / 22 * 22 + j % 22 by omega, h2]
    simpa [cellsE] using hu
theorem EvsAt.ltE {w : World} {a : Option Addr} {l : List Ev} (h : EvsAt w a l) (hl : 0 < l.length) : ∃ b o, a = some ⟨b, o, none⟩ ∧ b < w.heap.size ∧ ∀ i e, l[i]? = some e → ∀ k, k < 22 → w.cell? ⟨b, o + i * 22 + k, none⟩ = (cellsEv e)[k]? := by
  rcases h with rfl | ⟨b, o, rfl, h⟩
  · simp at hl
  · refine ⟨b, o, rfl, ?_, h⟩
    have h0 := h 0 _ (List.getElem?_eq_getElem hl) 0 (by omega)
    rw [cellsEv_0] at h0
    exact World.block_lt_of_cell? w _ h0
theorem evs_cells {w : World} {ad : Addr} {l : List Ev} (h : EvsAt w (some ad) l) : ∀ j u, (l.flatMap cellsE)[j]? = some u → w.cell? (ad.add j) = some u := by
  rcases h with rfl | ⟨b, o, e, h⟩
  · intro j u hu; simp at hu
  · cases e
    exact evs_cell h
theorem EvsAt.belowE {w w' : World} {a : Option Addr} {l : List Ev} (h : EvsAt w a l) (hb : Below w.heap.size w w') : EvsAt w' a l := by
  by_cases hl : 0 < l.length
  · obtain ⟨b, o, rfl, hlt, hc⟩ := h.ltE hl
    exact .inr ⟨b, o, rfl, fun i e hi k hk => (hb.cell (p := ⟨b, o + i * 22 + k, none⟩) hlt).trans (hc i e hi k hk)⟩
  · exact .inl (List.eq_nil_of_length_eq_zero (by omega))
def CloneEP (w : World) (l : List Ev) (e : Ending) (w' : World) : Prop := ∃ v, e = .returned v ∧ OwnE w' w.heap.size v l ∧ Below w.heap.size w w'

set_option maxRecDepth 100000 in
set_option maxHeartbeats 2000000 in
theorem cloneE_any (l : List Ev) (a : Option Addr) (c : Nat) (w : World) (hl : l.length ≤ 100000) (hc : l.length ≤ c ∧ c ≤ maxLen) (ha : a = none → l = [] ∧ c = 0) (h : EvsAt w a l) :
    Calls Try.prog 34 #[.slice a l.length c] w (CloneEP w l) := by
  cases a with
  | none =>
    obtain ⟨rfl, rfl⟩ := ha rfl
    have he : ∀ w : World, (binOp .eql 46 (.slice none 0 0) (.slice none 0 0)).run Try.prog w = .ok (.bool true) w := fun _ => rfl
    go_enter Try.func34, Try.ntmps34
    go_wp2
    go_ret
    exact ⟨_, rfl, World.ownsRow_nil _ _ _ _, Below.refl _ _⟩
  | some ad =>
    have H := Lib.hid h
    have he : ∀ w : World, (binOp .eql 46 (.slice (some ad) l.length c) (.slice none 0 0)).run Try.prog w = .ok (.bool false) w := fun _ => rfl
    clear h ha
    go_enter Try.func34, Try.ntmps34
    go_wp2_with (first
      | (at_builtin; refine wpList_app_cells rfl _ _ _ _ rfl und_evs info_ev (by simp [Value.cells, cellsEv, cellsO]) (by decide) w.heap.size (.slice (some ⟨w.heap.size, 0, none⟩) 0 0) 0 [] rfl (World.ownsRow_made w _ 0 (Nat.le_refl _) (by unfold maxLen; omega) rfl) ad l.length c (l.flatMap cellsE) rfl (flatLen 22 cellsE cellsE_len l) (evs_cells (H.out.belowE ((Below.refl w.heap.size w).alloc (Nat.le_refl _) _))) (fun x hx => by obtain ⟨e, _, he2⟩ := List.mem_flatMap.1 hx; exact cellsE_one e x he2) (by unfold maxLen; omega) (by omega) (by simp) ?_; intro v' w2 hown hgr; have HO := Lib.hid (show OwnE w2 w.heap.size v' l by simpa using hown); have HB := Lib.hid (((Below.refl w.heap.size w).alloc (Nat.le_refl _) (.cells #[] 69)).grown hgr (by simp) (fun k e => by simp [Value.ownBlock] at e; omega)); clear hown hgr)
      | fail)
    go_ret
    exact ⟨_, rfl, HO.out, HB.out⟩

/-- the changes from the m-th on -/
theorem EvsAt.dropE {w : World} {b o : Nat} {l : List Ev} (h : ∀ i e, l[i]? = some e → ∀ k, k < 22 → w.cell? ⟨b, o + i * 22 + k, none⟩ = (cellsEv e)[k]?) (m : Nat) : EvsAt w (some ⟨b, o + m * 22, none⟩) (l.drop m) := by
  refine .inr ⟨b, o + m * 22, rfl, fun i e hi k hk => ?_⟩
  rw [List.getElem?_drop] at hi
  have := h (m + i) e hi k hk
  rw [show o + m * 22 + i * 22 + k = o + (m + i) * 22 + k by rw [Nat.add_mul]; omega]
  exact this

set_option maxRecDepth 100000 in
set_option maxHeartbeats 4000000 in
theorem ssince0_any (w : World) (B : Nat) (L : SLoc) (cv : Value) (ms : List (GKey × Obj)) (cs : List Ev) (h : SM w B L cv ms cs) (hl : cs.length ≤ 100000) :
    Calls Try.prog 14 #[.pointer (some ⟨L.p, 0, none⟩), .int .u64 0] w (CloneEP w cs) := by
  obtain ⟨a, c, hcv, hev, hle, hmx⟩ := OwnE.evs h.ch
  have hna : a = none → cs = [] ∧ c = 0 := by
    intro ha
    subst ha
    obtain ⟨_, ⟨h1, h0⟩ | ⟨g, cap, cur, h1, _⟩⟩ := h.ch
    · rw [hcv] at h1
      simp at h1
      exact ⟨List.eq_nil_of_length_eq_zero h0, h1.2⟩
    · rw [hcv] at h1; simp at h1
  subst hcv
  have H := Lib.hid h
  obtain ⟨p1, q1⟩ := cells_of_block h.hd 1 (.slice a cs.length c) rfl
  have HEV := Lib.hid hev
  have HNA := Lib.hid hna
  have HLE := Lib.hid (And.intro hle hmx)
  have hci : IntKind.u64.wrap (cs.length : Int) = cs.length := by simp [IntKind.wrap, IntKind.bits, IntKind.signed]; omega
  have hkp : ∀ wz : World, Below w.heap.size w wz → wz.cell? ⟨L.p, 1, none⟩ = some (.slice a cs.length c) := fun wz hb => (hb.cell (p := ⟨L.p, 1, none⟩) h.lt.1).trans p1
  have HKP := Lib.hid hkp
  unfold maxLen at hmx
  clear h hev hna hkp
  have hm0 : min (0 : Int) (cs.length : Int) = 0 := by omega
  cases a with
  | none =>
    go_enter Try.func14, Try.ntmps14
    go_upto_region 3 with fail
    refine wp_region_tree (fun w' => (w'.cell? ⟨L.p, 1, none⟩ = some (.slice none cs.length c))) (.t 0 (.t 1 (.t 2 (.t 3 (.t 4 (.t 5 (.t 6 (.t 7 (.t 8 (.t 9 (.t 10 (.t 11 (.t 12 (.a 13 (.t 14 .nil))))))))))))))) (by kernel_rfl) (by kernel_rfl) (by kernel_rfl) ?_ ?_
    · exact (by first | exact HKP.out _ (Below.refl _ _).drew | exact HKP.out _ HB1.out)
    iterate 13
     apply wpT_takeK rfl _ (by first | rfl | (simp [Region.wanted, yielded]; done))
     · intro w' hS
       have s0 := hS
       clear hS
       go_simp
       try rfl
     intro K hK
     go_simp
     refine hK _ ?_
     clear hK K
    refine wpT_alone rfl ?_
    focus (go_wp2_with fail; refine (cloneE_any cs none c w.drew hl HLE.out (fun _ => HNA.out trivial) (HEV.out.belowE (Below.refl _ _).drew)).mono ?_; rintro x w1 ⟨v, rfl, hown, hb⟩; have HB1 := Lib.hid ((Below.refl w.heap.size w).drew.trans hb); have HO := Lib.hid hown; clear hown hb; go_wp2)
    refine QS_normal (by first | exact HKP.out _ (Below.refl _ _).drew | exact HKP.out _ HB1.out) (fun _ => ?_)
    apply wpT_takeK rfl _ (by first | rfl | (simp [Region.wanted, yielded]; done))
    · intro w' hS
      have s0 := hS
      clear hS
      go_simp
      try rfl
    intro K hK
    go_simp
    refine hK _ ?_
    clear hK K
    refine wpT_end ?_
    go_wp2
    go_ret
    exact ⟨_, rfl, HO.out, HB1.out⟩
  | some ad =>
    go_enter Try.func14, Try.ntmps14
    go_upto_region 3 with fail
    refine wp_region_tree (fun w' => (w'.cell? ⟨L.p, 1, none⟩ = some (.slice (some ad) cs.length c))) (.t 0 (.t 1 (.t 2 (.t 3 (.t 4 (.t 5 (.t 6 (.t 7 (.t 8 (.t 9 (.t 10 (.t 11 (.t 12 (.a 13 (.t 14 .nil))))))))))))))) (by kernel_rfl) (by kernel_rfl) (by kernel_rfl) ?_ ?_
    · exact (by first | exact HKP.out _ (Below.refl _ _).drew | exact HKP.out _ HB1.out)
    iterate 13
     apply wpT_takeK rfl _ (by first | rfl | (simp [Region.wanted, yielded]; done))
     · intro w' hS
       have s0 := hS
       clear hS
       go_simp
       try rfl
     intro K hK
     go_simp
     refine hK _ ?_
     clear hK K
    refine wpT_alone rfl ?_
    focus (go_wp2_with fail; refine (cloneE_any cs (some ad) c w.drew hl HLE.out HNA.out (HEV.out.belowE (Below.refl _ _).drew)).mono ?_; rintro x w1 ⟨v, rfl, hown, hb⟩; have HB1 := Lib.hid ((Below.refl w.heap.size w).drew.trans hb); have HO := Lib.hid hown; clear hown hb; go_wp2)
    refine QS_normal (by first | exact HKP.out _ (Below.refl _ _).drew | exact HKP.out _ HB1.out) (fun _ => ?_)
    apply wpT_takeK rfl _ (by first | rfl | (simp [Region.wanted, yielded]; done))
    · intro w' hS
      have s0 := hS
      clear hS
      go_simp
      try rfl
    intro K hK
    go_simp
    refine hK _ ?_
    clear hK K
    refine wpT_end ?_
    go_wp2
    go_ret
    exact ⟨_, rfl, HO.out, HB1.out⟩

end Go.Proofs.Ytobpohjhhelljaa
