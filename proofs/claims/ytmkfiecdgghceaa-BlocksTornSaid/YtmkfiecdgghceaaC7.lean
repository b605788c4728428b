/- Layer 5 (blocks): rows of bytes that are the same; that begin so. -/
import Derived.Test.YtmkfiecdgghceaaC4
namespace Go.Proofs.Ytmkfiecdgghceaa
open Go.RowKit
set_option linter.unusedVariables false
set_option linter.unusedSimpArgs false

/-- rows of bytes that are read -/
def IsRows (w : World) (a : Option Addr) (rs : List Bs) : Prop := rs = [] ∨ ∃ b o, ∃ vs : List Value, a = some ⟨b, o, none⟩ ∧ vs.length = rs.length ∧ (∀ k (hk : k < vs.length), w.cell? ⟨b, o + k, none⟩ = some vs[k]) ∧ ∀ k (hk : k < vs.length) (hk' : k < rs.length), IsB w vs[k] rs[k]
theorem IsRows.below {w w' : World} {a : Option Addr} {rs : List Bs} (h : IsRows w a rs) (hb : Below w.heap.size w w') : IsRows w' a rs := by
  rcases h with h | ⟨b, o, vs, e, h1, h2, h3⟩
  · exact .inl h
  · exact .inr ⟨b, o, vs, e, h1, fun k hk => (hb.cell (p := ⟨b, o + k, none⟩) (World.block_lt_of_cell? w _ (h2 k hk))).trans (h2 k hk), fun k hk hk' => (h3 k hk hk').below hb⟩
theorem OwnRows.rd {w : World} {B : Nat} {a : Option Addr} {n c : Nat} {rs : List Bs} (h : OwnRows w B (.slice a n c) rs) : IsRows w a rs ∧ n = rs.length := by
  obtain ⟨vs, h1, h2, h3⟩ := h
  obtain ⟨_, ⟨hv, h0⟩ | ⟨g, cap, cur, hv, _, _, _⟩⟩ := id h2
  · simp only [Value.slice.injEq] at hv
    exact ⟨.inl (List.eq_nil_of_length_eq_zero h0), by omega⟩
  · simp only [Value.slice.injEq] at hv
    obtain ⟨rfl, rfl, rfl⟩ := hv
    refine ⟨.inr ⟨g, 0, vs, rfl, h1, fun k hk => ?_, fun k hk hk' => (h3 k hk' hk).isB⟩, rfl⟩
    rw [Nat.zero_add, World.ownsRow.cellAt h2 k (by omega)]
    simp [hk]
theorem IsRows.take {w : World} {a : Option Addr} {rs : List Bs} (h : IsRows w a rs) (n : Nat) : IsRows w a (rs.take n) := by
  rcases h with rfl | ⟨b, o, vs, e, h1, h2, h3⟩
  · exact .inl (by simp)
  · refine .inr ⟨b, o, vs.take n, e, by simp [h1], fun k hk => ?_, fun k hk hk' => ?_⟩
    · rw [List.length_take] at hk
      rw [List.getElem_take]
      exact h2 k (by omega)
    · rw [List.length_take] at hk hk'
      rw [List.getElem_take, List.getElem_take]
      exact h3 k (by omega) (by omega)
theorem IsRows.at {w : World} {a : Option Addr} {rs : List Bs} (h : IsRows w a rs) {k : Nat} (hk : k < rs.length) : ∃ b o v, a = some ⟨b, o, none⟩ ∧ w.cell? ⟨b, o + k, none⟩ = some v ∧ IsB w v rs[k] := by
  rcases h with rfl | ⟨b, o, vs, e, h1, h2, h3⟩
  · simp at hk
  · exact ⟨b, o, vs[k]'(by omega), e, h2 k (by omega), h3 k (by omega) hk⟩

set_option maxRecDepth 100000 in
set_option maxHeartbeats 2000000 in
theorem same_any (l m : List Bs) (ln mn : Nat) (hln : ln = l.length) (hmn : mn = m.length) (a a' : Option Addr) (c c' : Nat) (w : World) (hl : ln ≤ 1000000) (hm : mn ≤ 1000000) (h : IsRows w a l) (h' : IsRows w a' m) :
    Calls Try.prog 25 #[.slice a ln c, .slice a' mn c'] w fun e w' => e = .returned (.bool (decide (l = m))) ∧ Below w.heap.size w w' := by
  subst hln; subst hmn
  by_cases hlen : l.length = m.length
  rotate_left
  · have hx : ((l.length : Int) == (m.length : Int)) = false := by simp; omega
    have hx2 : ((l.length : Int) != (m.length : Int)) = true := by simp; omega
    have hr : decide (l = m) = false := by simp; intro h; exact hlen (by rw [h])
    have HR := Lib.hid hr
    clear h h' hr
    go_enter Try.func25, Try.ntmps25
    go_wp2
    go_ret
    exact ⟨ret_bool HR.out.symm, Below.refl _ _⟩
  have H := Lib.hid h
  have H' := Lib.hid h'
  have HL := Lib.hid hlen
  have hx : ((l.length : Int) == (m.length : Int)) = true := by simp; omega
  have hx2 : ((l.length : Int) != (m.length : Int)) = false := by simp; omega
  clear h h' hlen
  go_enter Try.func25, Try.ntmps25
  go_wp2
  go_loopw [5] (fun i wr => ∃ k : Nat, k ≤ l.length ∧ i = .int .i64 k ∧ Hid (l.take k = m.take k) ∧ Hid (Below w.heap.size w wr)) (fun i _ => l.length - (intOf i).toNat)
  case atStart => exact ⟨0, Nat.zero_le _, rfl, Lib.hid (by simp), Lib.hid (Below.refl _ _)⟩
  case round =>
    obtain ⟨k, hk, rfl, HT, HB⟩ := hrel
    by_cases hlt : k < l.length
    · have hkm : k < m.length := by have := HL.out; omega
      obtain ⟨b, o, v1, rfl, c1, i1⟩ := (H.out.below HB.out).at hlt
      obtain ⟨b', o', v2, rfl, c2, i2⟩ := (H'.out.below HB.out).at hkm
      have I1 := Lib.hid (i1.below (Below.refl _ wr).drew)
      have I2 := Lib.hid (i2.below (Below.refl _ wr).drew)
      clear i1 i2
      by_cases he : l[k] = m[k]
      · have HDec := Lib.hid (decide_eq_true he)
        have ht : l.take (k + 1) = m.take (k + 1) := by rw [List.take_succ_eq_append_getElem hlt, List.take_succ_eq_append_getElem hkm, HT.out, he]
        have HT' := Lib.hid ht
        clear ht he HT
        go_wp2
        refine wp_region_N (fun w' => (w'.cell? ⟨b, o + k, none⟩ = some v1) ∧ (w'.cell? ⟨b', o' + k, none⟩ = some v2) ∧ (IsB w' v1 l[k]) ∧ (IsB w' v2 m[k]))
          [(true, 0), (true, 1), (true, 2), (true, 3), (true, 4), (true, 5), (true, 6), (true, 7), (true, 8), (true, 9), (true, 10)] (by kernel_rfl) (by kernel_rfl) rfl (by kernel_rfl) ?_ ?_
        · exact ⟨by first | exact c1 | exact c2 | exact I1.out | exact I2.out, by first | exact c1 | exact c2 | exact I1.out | exact I2.out, by first | exact c1 | exact c2 | exact I1.out | exact I2.out, by first | exact c1 | exact c2 | exact I1.out | exact I2.out⟩
        simp only [List.filterMap_cons, List.filterMap_nil, List.getElem?_cons_succ, List.getElem?_cons_zero, Option.map_some]
        apply wpSeq_takeK _ (by first | rfl | (simp [Region.wanted, yielded]; done))
        · intro w' hS
          obtain ⟨s0, s1, s2, s3⟩ := hS
          skip
          go_simp
          try rfl
        intro K hK
        go_simp
        refine hK _ ?_
        clear hK K
        apply wpSeq_takeK _ (by first | rfl | (simp [Region.wanted, yielded]; done))
        · intro w' hS
          obtain ⟨s0, s1, s2, s3⟩ := hS
          skip
          go_simp
          try rfl
        intro K hK
        go_simp
        refine hK _ ?_
        clear hK K
        apply wpSeq_takeK _ (by first | rfl | (simp [Region.wanted, yielded]; done))
        · intro w' hS
          obtain ⟨s0, s1, s2, s3⟩ := hS
          skip
          go_simp
          try rfl
        intro K hK
        go_simp
        refine hK _ ?_
        clear hK K
        apply wpSeq_takeK _ (by first | rfl | (simp [Region.wanted, yielded]; done))
        · intro w' hS
          obtain ⟨s0, s1, s2, s3⟩ := hS
          skip
          go_simp
          try rfl
        intro K hK
        go_simp
        refine hK _ ?_
        clear hK K
        refine wpSeq_takeK (.string ⟨l[k].toArray⟩) (by first | rfl | (simp [Region.wanted, yielded]; done)) ?_ ?_
        · intro w' hS
          obtain ⟨s0, s1, s2, s3⟩ := hS
          exact exec_text rfl rfl s2
        intro K hK
        go_simp
        refine hK _ ?_
        clear hK K
        apply wpSeq_takeK _ (by first | rfl | (simp [Region.wanted, yielded]; done))
        · intro w' hS
          obtain ⟨s0, s1, s2, s3⟩ := hS
          skip
          go_simp
          try rfl
        intro K hK
        go_simp
        refine hK _ ?_
        clear hK K
        apply wpSeq_takeK _ (by first | rfl | (simp [Region.wanted, yielded]; done))
        · intro w' hS
          obtain ⟨s0, s1, s2, s3⟩ := hS
          skip
          go_simp
          try rfl
        intro K hK
        go_simp
        refine hK _ ?_
        clear hK K
        apply wpSeq_takeK _ (by first | rfl | (simp [Region.wanted, yielded]; done))
        · intro w' hS
          obtain ⟨s0, s1, s2, s3⟩ := hS
          skip
          go_simp
          try rfl
        intro K hK
        go_simp
        refine hK _ ?_
        clear hK K
        apply wpSeq_takeK _ (by first | rfl | (simp [Region.wanted, yielded]; done))
        · intro w' hS
          obtain ⟨s0, s1, s2, s3⟩ := hS
          skip
          go_simp
          try rfl
        intro K hK
        go_simp
        refine hK _ ?_
        clear hK K
        refine wpSeq_takeK (.string ⟨m[k].toArray⟩) (by first | rfl | (simp [Region.wanted, yielded]; done)) ?_ ?_
        · intro w' hS
          obtain ⟨s0, s1, s2, s3⟩ := hS
          exact exec_text rfl rfl s3
        intro K hK
        go_simp
        refine hK _ ?_
        clear hK K
        refine wpSeq_takeK (.bool false) (by first | rfl | (simp [Region.wanted, yielded]; done)) ?_ ?_
        · intro w' hS
          obtain ⟨s0, s1, s2, s3⟩ := hS
          (rw [exec_neqText rfl rfl rfl, HDec.out]; rfl)
        intro K hK
        go_simp
        refine hK _ ?_
        clear hK K
        refine wpSeq_end ?_
        go_wp2
        go_roundw
        case rel => exact ⟨k + 1, by omega, by go_num, HT', Lib.hid HB.out.drew⟩
        case measure => simp [intOf]; omega
      · have HDec := Lib.hid (decide_eq_false he)
        have hr : decide (l = m) = false := by simp; intro h; subst h; exact he rfl
        have HR := Lib.hid hr
        clear hr he HT
        go_wp2
        refine wp_region_N (fun w' => (w'.cell? ⟨b, o + k, none⟩ = some v1) ∧ (w'.cell? ⟨b', o' + k, none⟩ = some v2) ∧ (IsB w' v1 l[k]) ∧ (IsB w' v2 m[k]))
          [(true, 0), (true, 1), (true, 2), (true, 3), (true, 4), (true, 5), (true, 6), (true, 7), (true, 8), (true, 9), (true, 10)] (by kernel_rfl) (by kernel_rfl) rfl (by kernel_rfl) ?_ ?_
        · exact ⟨by first | exact c1 | exact c2 | exact I1.out | exact I2.out, by first | exact c1 | exact c2 | exact I1.out | exact I2.out, by first | exact c1 | exact c2 | exact I1.out | exact I2.out, by first | exact c1 | exact c2 | exact I1.out | exact I2.out⟩
        simp only [List.filterMap_cons, List.filterMap_nil, List.getElem?_cons_succ, List.getElem?_cons_zero, Option.map_some]
        apply wpSeq_takeK _ (by first | rfl | (simp [Region.wanted, yielded]; done))
        · intro w' hS
          obtain ⟨s0, s1, s2, s3⟩ := hS
          skip
          go_simp
          try rfl
        intro K hK
        go_simp
        refine hK _ ?_
        clear hK K
        apply wpSeq_takeK _ (by first | rfl | (simp [Region.wanted, yielded]; done))
        · intro w' hS
          obtain ⟨s0, s1, s2, s3⟩ := hS
          skip
          go_simp
          try rfl
        intro K hK
        go_simp
        refine hK _ ?_
        clear hK K
        apply wpSeq_takeK _ (by first | rfl | (simp [Region.wanted, yielded]; done))
        · intro w' hS
          obtain ⟨s0, s1, s2, s3⟩ := hS
          skip
          go_simp
          try rfl
        intro K hK
        go_simp
        refine hK _ ?_
        clear hK K
        apply wpSeq_takeK _ (by first | rfl | (simp [Region.wanted, yielded]; done))
        · intro w' hS
          obtain ⟨s0, s1, s2, s3⟩ := hS
          skip
          go_simp
          try rfl
        intro K hK
        go_simp
        refine hK _ ?_
        clear hK K
        refine wpSeq_takeK (.string ⟨l[k].toArray⟩) (by first | rfl | (simp [Region.wanted, yielded]; done)) ?_ ?_
        · intro w' hS
          obtain ⟨s0, s1, s2, s3⟩ := hS
          exact exec_text rfl rfl s2
        intro K hK
        go_simp
        refine hK _ ?_
        clear hK K
        apply wpSeq_takeK _ (by first | rfl | (simp [Region.wanted, yielded]; done))
        · intro w' hS
          obtain ⟨s0, s1, s2, s3⟩ := hS
          skip
          go_simp
          try rfl
        intro K hK
        go_simp
        refine hK _ ?_
        clear hK K
        apply wpSeq_takeK _ (by first | rfl | (simp [Region.wanted, yielded]; done))
        · intro w' hS
          obtain ⟨s0, s1, s2, s3⟩ := hS
          skip
          go_simp
          try rfl
        intro K hK
        go_simp
        refine hK _ ?_
        clear hK K
        apply wpSeq_takeK _ (by first | rfl | (simp [Region.wanted, yielded]; done))
        · intro w' hS
          obtain ⟨s0, s1, s2, s3⟩ := hS
          skip
          go_simp
          try rfl
        intro K hK
        go_simp
        refine hK _ ?_
        clear hK K
        apply wpSeq_takeK _ (by first | rfl | (simp [Region.wanted, yielded]; done))
        · intro w' hS
          obtain ⟨s0, s1, s2, s3⟩ := hS
          skip
          go_simp
          try rfl
        intro K hK
        go_simp
        refine hK _ ?_
        clear hK K
        refine wpSeq_takeK (.string ⟨m[k].toArray⟩) (by first | rfl | (simp [Region.wanted, yielded]; done)) ?_ ?_
        · intro w' hS
          obtain ⟨s0, s1, s2, s3⟩ := hS
          exact exec_text rfl rfl s3
        intro K hK
        go_simp
        refine hK _ ?_
        clear hK K
        refine wpSeq_takeK (.bool true) (by first | rfl | (simp [Region.wanted, yielded]; done)) ?_ ?_
        · intro w' hS
          obtain ⟨s0, s1, s2, s3⟩ := hS
          (rw [exec_neqText rfl rfl rfl, HDec.out]; rfl)
        intro K hK
        go_simp
        refine hK _ ?_
        clear hK K
        refine wpSeq_end ?_
        go_wp2
        go_ret
        exact ⟨ret_bool HR.out.symm, HB.out.drew⟩
    · obtain rfl : k = l.length := by omega
      have hr : decide (l = m) = true := by
        have := HT.out
        rw [List.take_length, HL.out, List.take_length] at this
        simp [this]
      have HR := Lib.hid hr
      clear hr HT
      go_wp2
      go_ret
      exact ⟨ret_bool HR.out.symm, HB.out⟩

theorem prefix_dec (l m : List Bs) : decide (l <+: m) = (decide (l.length ≤ m.length) && decide (l = m.take l.length)) := by
  rw [Bool.eq_iff_iff]
  simp only [decide_eq_true_eq, Bool.and_eq_true]
  constructor
  · intro h; exact ⟨h.length_le, List.prefix_iff_eq_take.1 h⟩
  · intro h; exact List.prefix_iff_eq_take.2 h.2
set_option maxHeartbeats 2000000 in
theorem begins_any (l m : List Bs) (ln mn : Nat) (hln : ln = l.length) (hmn : mn = m.length) (a a' : Option Addr) (c c' : Nat) (w : World) (hl : ln ≤ 1000000) (hm : mn ≤ 1000000) (hmc : mn ≤ c') (h : IsRows w a l) (h' : IsRows w a' m) :
    Calls Try.prog 21 #[.slice a ln c, .slice a' mn c'] w fun e w' => e = .returned (.bool (decide (l <+: m))) ∧ Below w.heap.size w w' := by
  have H := Lib.hid h
  have H' := Lib.hid (h'.take ln)
  have HLn := Lib.hid hln
  have HMn := Lib.hid hmn
  clear h h' hln hmn
  by_cases hle : ln ≤ mn
  · have hlc : ln ≤ c' := by omega
    have HR := Lib.hid (show decide (l <+: m) = decide (l = m.take ln) by rw [prefix_dec, ← HLn.out, ← HMn.out]; simp [hle])
    go_enter Try.func21, Try.ntmps21
    go_wp2_with (go_at_call 25; refine (same_any l (m.take ln) ln ln HLn.out (by rw [List.length_take, ← HMn.out]; omega) _ _ _ _ w hl hl H.out H'.out).mono ?_; rintro e w2 ⟨rfl, hb⟩; rw [← HR.out]; have HB := Lib.hid hb; clear hb)
    go_ret
    exact ⟨rfl, HB.out⟩
  · have HR := Lib.hid (show decide (l <+: m) = false by rw [prefix_dec, ← HLn.out, ← HMn.out]; simp [hle])
    go_enter Try.func21, Try.ntmps21
    go_wp2
    go_ret
    exact ⟨ret_bool HR.out.symm, Below.refl _ _⟩

end Go.Proofs.Ytmkfiecdgghceaa
