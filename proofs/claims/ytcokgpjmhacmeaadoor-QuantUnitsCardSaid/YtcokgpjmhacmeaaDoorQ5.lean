/- Layer 1 (quant): Parse. -/
import Derived.Test.YtcokgpjmhacmeaaDoorQ4
namespace Go.Proofs.YtcokgpjmhacmeaaDoor
open Go.RowKit
set_option linter.unusedVariables false
set_option linter.unusedSimpArgs false
open Go.Shelf

theorem parseUint_digs (d : Bs) (h : ∀ c ∈ d, isD c = true) (h0 : d ≠ []) (hl : d.length ≤ 16) : Lib.parseUintB 64 d = .ok (val d) := by
  unfold Lib.parseUintB val
  rw [if_neg h0]
  suffices ∀ (d : Bs), (∀ c ∈ d, isD c = true) → ∀ v n, v < 10 ^ n → n + d.length ≤ 16 → Lib.parseUintM (2 ^ 64 - 1) v d = .ok (d.foldl stepV v) from this d h 0 0 (by decide) (by omega)
  intro d
  induction d with
  | nil => intro _ v n _ _; rfl
  | cons c d ih =>
    intro h v n hv hn
    have hc : isD c = true := h c (by simp)
    simp only [isD, Bool.and_eq_true, decide_eq_true_eq] at hc
    simp only [List.length_cons] at hn
    have h16 : 10 ^ (n + 1) ≤ 10 ^ 16 := Nat.pow_le_pow_right (by decide) (by omega)
    rw [Nat.pow_succ] at h16
    unfold Lib.parseUintM
    rw [if_pos hc, if_neg (by omega), if_neg (by omega)]
    exact ih (fun x hx => h x (by simp [hx])) (stepV v c) (n + 1) (by unfold stepV; rw [Nat.pow_succ]; omega) (by omega)
theorem isEmpty_of {D : ByteArray} {l : Bs} (h : D.data.toList = l) : D.toList.isEmpty = l.isEmpty := by rw [ByteArray.toList_eq, h]
theorem beq_of {D : ByteArray} {l m : Bs} (h : D.data.toList = l) : (D.toList == m) = (l == m) := by rw [ByteArray.toList_eq, h]
theorem get0_of {D : ByteArray} {c : UInt8} {r : Bs} (h : D.data.toList = c :: r) (h0 : 0 < D.size) : D[0]'h0 = c := by
  have : D.data.toList[0]? = some c := by rw [h]; rfl
  rw [Array.getElem?_toList] at this
  have h2 := Array.getElem?_eq_some_iff.1 this
  obtain ⟨_, h3⟩ := h2
  exact h3

def pRes (x : Int × Int) : Value := .tuple #[.int .i64 x.1, .int .i64 x.2]

set_option maxRecDepth 100000 in
set_option maxHeartbeats 2000000 in
theorem parse_any (s : ByteArray) (hs : s.size ≤ 9223372036854775807) (w : World) : Calls Tryd.prog 11 #[.string s] w fun e w' => e = .returned (pRes (parseF s.data.toList)) ∧ Below w.heap.size w w' := by
  have HSZ := Lib.hid (show s.data.toList.length = s.size by rw [Array.length_toList]; rfl)
  have HDL := Lib.hid (digs_length s.data.toList)
  obtain ⟨k, hk⟩ : ∃ k, k = (digs s.data.toList).length := ⟨_, rfl⟩
  have HKD := Lib.hid hk
  have kw : wrap64 ((s.size : Int) - ((rest s.data.toList).length : Int)) = (k : Int) := by
    have h1 := HSZ.out; have h2 := HDL.out
    unfold wrap64; omega
  have kb : (k : Int) ≤ (s.size : Int) := by have h1 := HSZ.out; have h2 := HDL.out; omega
  have kb' : k ≤ s.size := by omega
  clear hk
  go_enter Tryd.func11, Tryd.ntmps11
  go_wp2_with (go_at_call 22; refine (trim_any s _).mono ?_; rintro e w1 ⟨rfl, hb⟩; have HB := Lib.hid hb; clear hb)
  have hDl : (s.extract 0 k).data.toList = digs s.data.toList := by
    rw [ByteArray.data_extract, Array.toList_extract]
    have := take_digs s.data.toList
    have h1 := HDL.out
    have h2 := HKD.out
    rw [show s.data.toList.length - (rest s.data.toList).length = k by omega] at this
    simpa using this
  have hRl : (s.extract k s.size).data.toList = rest s.data.toList := by
    rw [ByteArray.data_extract, Array.toList_extract, List.extract_eq_take_drop]
    have := drop_digs s.data.toList
    rw [← HKD.out] at this
    have h1 := HSZ.out
    rw [← this, List.take_of_length_le (by rw [List.length_drop]; omega)]
  generalize hD : s.extract 0 k = D at *
  generalize hR : s.extract k s.size = R at *
  clear hD hR
  have hDs : D.size = k := by rw [HKD.out, ← hDl, Array.length_toList]; rfl
  have HDl := Lib.hid hDl
  clear hDl
  cases hu : unitOf (rest s.data.toList) with
  | none =>
    have HP := Lib.hid (show parseF s.data.toList = (0, 2) by unfold parseF; rw [hu])
    refine (unit_any R _).mono ?_
    rw [hRl, hu]
    rintro e w2 ⟨rfl, hb⟩
    have HB := Lib.hid (HB.out.trans (hb.mono HB.out.size))
    clear hb hu hRl
    simp only [uRes]
    go_wp2
    go_ret2
    rw [HP.out]
    exact ⟨rfl, HB.out⟩
  | some u =>
    obtain ⟨hu1, hu2⟩ := unitOf_bnd hu
    have HP := Lib.hid (show parseF s.data.toList = _ by unfold parseF; rw [hu])
    refine (unit_any R _).mono ?_
    rw [hRl, hu]
    rintro e w2 ⟨rfl, hb⟩
    have HB := Lib.hid (HB.out.trans (hb.mono HB.out.size))
    clear hb hu hRl
    simp only [uRes]
    have hall := digs_isD (s := s.data.toList)
    have HAll := Lib.hid hall
    clear hall
    generalize digs s.data.toList = L at *
    have hDl := HDl.out
    cases L with
    | nil =>
      have e0 := isEmpty_of hDl
      have HPe := Lib.hid (show parseF s.data.toList = (0, 2) by rw [HP.out]; rfl)
      simp only [List.isEmpty_nil] at e0
      clear hDl
      go_wp2
      go_ret2
      rw [HPe.out]
      exact ⟨rfl, HB.out⟩
    | cons c r =>
      have hk := HKD.out
      simp only [List.length_cons] at hk
      have e0 := isEmpty_of hDl
      have e2 := beq_of (m := [48]) hDl
      have hD0 : 0 < D.size := by omega
      have e3 := get0_of hDl hD0
      simp only [List.isEmpty_cons] at e0
      clear hDl
      have h0k : (0 : Int) < (k : Int) := by omega
      have h0k' : 0 < k := by omega
      by_cases h16 : (k : Int) ≤ 16
      · rcases (show (c = 48 ∧ r ≠ []) ∨ (¬ (c = 48 ∧ r ≠ [])) from Classical.em _) with ⟨rfl, hr⟩ | hc
        · have e2' : (D.toList == [48]) = false := by rw [e2]; exact beq_false_of_ne fun e => hr (by simpa using e)
          have e3' : ((D[0]'hD0).toNat : Int) = 48 := by rw [e3]; rfl
          have HPe := Lib.hid (show parseF s.data.toList = (0, 2) by
            rw [HP.out]
            refine if_pos (.inr (.inr ⟨?_, rfl⟩))
            cases r with
            | nil => exact absurd rfl hr
            | cons x y => simp)
          clear e2 e3 hk hr
          go_wp2
          go_ret2
          rw [HPe.out]
          exact ⟨rfl, HB.out⟩
        · have hn : ¬ ((c :: r).length < 1 ∨ 16 < (c :: r).length ∨ (1 < (c :: r).length ∧ (c :: r).head? = some 48)) := by
            simp only [List.length_cons, List.head?_cons, Option.some.injEq]
            rintro (h | h | ⟨h, h'⟩)
            · omega
            · omega
            · exact hc ⟨h', by rintro rfl; simp at h⟩
          have HPe := Lib.hid (show parseF s.data.toList = if val (c :: r) * u ≤ 1125899906842624 then (((val (c :: r) * u : Nat) : Int), 0) else (0, 3) by rw [HP.out]; exact if_neg hn)
          have hv := val_lt _ HAll.out
          have hp16 : 10 ^ (c :: r).length ≤ 10 ^ 16 := Nat.pow_le_pow_right (by decide) (by simp only [List.length_cons]; omega)
          have hU := parseUint_digs (c :: r) HAll.out (by simp) (by simp only [List.length_cons]; omega)
          have h48 : (c = 48 ∧ r = []) ∨ c ≠ 48 := by
            by_cases h : c = 48
            · exact .inl ⟨h, Classical.byContradiction fun h' => hc ⟨h, h'⟩⟩
            · exact .inr h
          generalize hV : val (c :: r) = V at *
          rw [← HDl.out] at hU
          have hV16 : V < 10 ^ 16 := by omega
          clear hv hp16 hk hn hc
          have HU := Lib.hid hU
          clear hU hV
          have hcv : IntKind.u64.wrap (u : Int) = (u : Int) := by unfold IntKind.wrap; simp [IntKind.bits, IntKind.signed] <;> omega
          have hD16 : D.size ≤ 16 := by omega
          rcases h48 with ⟨rfl, rfl⟩ | h48
          · have e2' : (D.toList == [48]) = true := e2
            clear e2 e3
            obtain ⟨M, hM⟩ : ∃ M, M = V * u := ⟨_, rfl⟩
            have HM := Lib.hid hM
            rw [← hM] at HPe
            clear hM
            by_cases hmax : M ≤ 1125899906842624
            · have hm1 : M / 18446744073709551616 = 0 := by omega
              have hm2 : M % 18446744073709551616 = M := by omega
              have hm3 : (M : Int) ≤ 1125899906842624 := by omega
              have hm4 : IntKind.i64.wrap (M : Int) = (M : Int) := IntWalk.i64_in _ (by omega)
              go_wp2_with (first | (go_at_call 23; refine (parseUint_any D V hD16 HU.out _).mono ?_; rintro e w3 ⟨rfl, hb⟩; have HB := Lib.hid (HB.out.trans (hb.mono HB.out.size)); clear hb) | (go_at_call 24; refine (mul64_any V u (by omega) (by omega) _).mono ?_; rintro e w4 ⟨rfl, rfl⟩; rw [← HM.out, hm1, hm2]))
              go_ret2
              rw [HPe.out, if_pos hmax]
              exact ⟨rfl, HB.out⟩
            · by_cases hbig : M < 18446744073709551616
              · have hm1 : M / 18446744073709551616 = 0 := by omega
                have hm2 : M % 18446744073709551616 = M := by omega
                have hm3 : ¬ (M : Int) ≤ 1125899906842624 := by omega
                go_wp2_with (first | (go_at_call 23; refine (parseUint_any D V hD16 HU.out _).mono ?_; rintro e w3 ⟨rfl, hb⟩; have HB := Lib.hid (HB.out.trans (hb.mono HB.out.size)); clear hb) | (go_at_call 24; refine (mul64_any V u (by omega) (by omega) _).mono ?_; rintro e w4 ⟨rfl, rfl⟩; rw [← HM.out, hm1, hm2]))
                go_ret2
                rw [HPe.out, if_neg hmax]
                exact ⟨rfl, HB.out⟩
              · obtain ⟨q, hq⟩ : ∃ q, M / 18446744073709551616 = q + 1 := ⟨M / 18446744073709551616 - 1, by omega⟩
                have hm1 : (((q + 1 : Nat) : Int) == 0) = false := beq_false_of_ne (by omega)
                generalize hlo : M % 18446744073709551616 = lo at *
                go_wp2_with (first | (go_at_call 23; refine (parseUint_any D V hD16 HU.out _).mono ?_; rintro e w3 ⟨rfl, hb⟩; have HB := Lib.hid (HB.out.trans (hb.mono HB.out.size)); clear hb) | (go_at_call 24; refine (mul64_any V u (by omega) (by omega) _).mono ?_; rintro e w4 ⟨rfl, rfl⟩; rw [← HM.out, hq, hlo]))
                go_ret2
                rw [HPe.out, if_neg hmax]
                exact ⟨rfl, HB.out⟩
          · have e2' : (D.toList == [48]) = false := by rw [e2]; exact beq_false_of_ne fun e => h48 (by simp at e; exact e.1)
            have e3' : (((D[0]'hD0).toNat : Int) == 48) = false := by rw [e3]; exact beq_false_of_ne fun e => h48 (UInt8.toNat_inj.1 (by simpa using (show c.toNat = 48 by omega)))
            clear e2 e3 h48
            obtain ⟨M, hM⟩ : ∃ M, M = V * u := ⟨_, rfl⟩
            have HM := Lib.hid hM
            rw [← hM] at HPe
            clear hM
            by_cases hmax : M ≤ 1125899906842624
            · have hm1 : M / 18446744073709551616 = 0 := by omega
              have hm2 : M % 18446744073709551616 = M := by omega
              have hm3 : (M : Int) ≤ 1125899906842624 := by omega
              have hm4 : IntKind.i64.wrap (M : Int) = (M : Int) := IntWalk.i64_in _ (by omega)
              go_wp2_with (first | (go_at_call 23; refine (parseUint_any D V hD16 HU.out _).mono ?_; rintro e w3 ⟨rfl, hb⟩; have HB := Lib.hid (HB.out.trans (hb.mono HB.out.size)); clear hb) | (go_at_call 24; refine (mul64_any V u (by omega) (by omega) _).mono ?_; rintro e w4 ⟨rfl, rfl⟩; rw [← HM.out, hm1, hm2]))
              go_ret2
              rw [HPe.out, if_pos hmax]
              exact ⟨rfl, HB.out⟩
            · by_cases hbig : M < 18446744073709551616
              · have hm1 : M / 18446744073709551616 = 0 := by omega
                have hm2 : M % 18446744073709551616 = M := by omega
                have hm3 : ¬ (M : Int) ≤ 1125899906842624 := by omega
                go_wp2_with (first | (go_at_call 23; refine (parseUint_any D V hD16 HU.out _).mono ?_; rintro e w3 ⟨rfl, hb⟩; have HB := Lib.hid (HB.out.trans (hb.mono HB.out.size)); clear hb) | (go_at_call 24; refine (mul64_any V u (by omega) (by omega) _).mono ?_; rintro e w4 ⟨rfl, rfl⟩; rw [← HM.out, hm1, hm2]))
                go_ret2
                rw [HPe.out, if_neg hmax]
                exact ⟨rfl, HB.out⟩
              · obtain ⟨q, hq⟩ : ∃ q, M / 18446744073709551616 = q + 1 := ⟨M / 18446744073709551616 - 1, by omega⟩
                have hm1 : (((q + 1 : Nat) : Int) == 0) = false := beq_false_of_ne (by omega)
                generalize hlo : M % 18446744073709551616 = lo at *
                go_wp2_with (first | (go_at_call 23; refine (parseUint_any D V hD16 HU.out _).mono ?_; rintro e w3 ⟨rfl, hb⟩; have HB := Lib.hid (HB.out.trans (hb.mono HB.out.size)); clear hb) | (go_at_call 24; refine (mul64_any V u (by omega) (by omega) _).mono ?_; rintro e w4 ⟨rfl, rfl⟩; rw [← HM.out, hq, hlo]))
                go_ret2
                rw [HPe.out, if_neg hmax]
                exact ⟨rfl, HB.out⟩
      · have HPe := Lib.hid (show parseF s.data.toList = (0, 2) by rw [HP.out]; exact if_pos (.inr (.inl (by rw [← HKD.out]; omega))))
        clear e2 e3 hk
        go_wp2
        go_ret2
        rw [HPe.out]
        exact ⟨rfl, HB.out⟩

end Go.Proofs.YtcokgpjmhacmeaaDoor
