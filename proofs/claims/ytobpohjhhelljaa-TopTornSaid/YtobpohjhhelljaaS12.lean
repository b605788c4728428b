/- Layer 6 (store), plainly: a change's bytes have a small sum; so what a crash leaves of a store's log. -/
import Derived.Test.YtobpohjhhelljaaS11
import Derived.Test.YtobpohjhhelljaaB13
namespace Go.Proofs.Ytobpohjhhelljaa
open Go.RowKit
set_option linter.unusedVariables false
set_option linter.unusedSimpArgs false


/-- read again, the changes give the objects -/
def Again (ms : List (GKey × Obj)) (cs : List Ev) : Prop := openM (cs.map chE) [] [] = some (ms, cs)
theorem Again.nil : Again [] [] := rfl
theorem openM_snoc (c : Ev) (ht : c.Typed) (hr : rightB c.obj = true) : ∀ (rs : List Bs) (ms : List (GKey × Obj)) (cs : List Ev) (ms' : List (GKey × Obj)) (cs' : List Ev), openM rs ms cs = some (ms', cs') →
    openM (rs ++ [chE c]) ms cs = if fitsM ms' cs' c = true then some (doM ms' c, cs' ++ [c]) else none
  | [], ms, cs, ms', cs', h => by
    simp only [openM, Option.some.injEq, Prod.mk.injEq] at h
    obtain ⟨rfl, rfl⟩ := h
    simp only [List.nil_append, openM, readC_chE ht hr]
  | r :: rs, ms, cs, ms', cs', h => by
    simp only [List.cons_append, openM] at h ⊢
    cases hd : readC r with
    | none => rw [hd] at h; cases h
    | some c2 =>
      rw [hd] at h
      simp only at h ⊢
      by_cases hf : fitsM ms cs c2 = true
      · rw [if_pos hf] at h ⊢
        exact openM_snoc c ht hr rs _ _ _ _ h
      · rw [if_neg hf] at h; cases h
theorem Again.step {ms : List (GKey × Obj)} {cs : List Ev} {c : Ev} (h : Again ms cs) (ht : c.Typed) (hr : rightB c.obj = true) (hf : fitsM ms cs c = true) : Again (doM ms c) (cs ++ [c]) := by
  unfold Again at *
  rw [List.map_append, List.map_cons, List.map_nil, openM_snoc c ht hr _ _ _ _ _ h, if_pos hf]
theorem change_fits {ms : List (GKey × Obj)} {cs : List Ev} {o : Obj} (h : (changeM ms cs o).1 = 0) : fitsM ms cs (changeM ms cs o).2 = true := by
  obtain ⟨_, hC⟩ := change_ok h
  have hfull : ¬ ((assoc ms (keyO o)).isSome = false ∧ 200 ≤ ms.length) := by
    intro hx
    unfold changeM at h
    by_cases h1 : rightB o = false
    · rw [if_pos h1] at h; simp at h
    · rw [if_neg h1] at h
      by_cases h2 : ¬ ((assoc ms (keyO o)).getD objZ).version = o.version
      · rw [if_pos h2] at h; simp at h
      · rw [if_neg h2, if_pos hx] at h; simp at h
  rw [hC]
  have hk : keyO (newO o (assoc ms (keyO o)) (verS cs + 1)) = keyO o := rfl
  unfold fitsM
  rw [if_neg (by simp), if_neg (by simp), if_neg (by simp [newO])]
  simp only [hk]
  by_cases hs : (assoc ms (keyO o)).isSome = true
  · rw [if_pos hs]
    simp [newO, hs]
  · rw [if_neg hs]
    have hs' : (assoc ms (keyO o)).isSome = false := by simpa using hs
    have : ms.length < 200 := by
      by_cases h200 : 200 ≤ ms.length
      · exact absurd ⟨hs', h200⟩ hfull
      · omega
    simp [newO, hs', this]
theorem Again.put {ms : List (GKey × Obj)} {cs : List Ev} (h : Again ms cs) {n most : Nat} {o : Obj} (ht : (changeM ms cs o).1 = 0 → (changeM ms cs o).2.Typed) : Again (putM ms cs n most o).2.2.1 (putM ms cs n most o).2.2.2.1 := by
  unfold putM
  by_cases he : (changeM ms cs o).1 = 0
  · rw [if_pos he]
    by_cases hr : most - n < needN (chE (changeM ms cs o).2).length
    · rw [if_pos hr]; exact h
    · rw [if_neg hr]
      refine h.step (ht he) ?_ (change_fits he)
      obtain ⟨h1, h2⟩ := change_ok he
      rw [h2]
      exact h1
  · rw [if_neg he]; exact h


theorem getD_take8 (t : Bs) {i n : Nat} (h : i < n) : (t.take n).getD i 0 = t.getD i 0 := by
  simp only [List.getD, List.getElem?_take_of_lt h]
theorem torn_scanG {l t : Bs} {K m j : Nat} (h1 : 1 ≤ l.length) (h2 : l.length ≤ 1024) (hsum : sumB l + 1 < 65521) (hK : K + 1 ≤ 255) (hm : m + j ≤ needN l.length * 64) (ht : t = (recd l (K + 1)).take m ++ List.replicate j 0) :
    scan t (K + 1) = none ∨ t = recd l (K + 1) := by
  have hR := recd_length (K + 1) h1 h2
  have hN := needN_of h1 h2
  have hmR : m ≤ (recd l (K + 1)).length := by omega
  have hg : ∀ i, t.getD i 0 = if i < m then (recd l (K + 1)).getD i 0 else 0 := fun i => by rw [ht]; exact getD_torn _ _ _ _ hmR
  have hlen : t.length = m + j := by rw [ht, List.length_append, List.length_take, List.length_replicate]; omega
  by_cases hs : scan t (K + 1) = none
  · exact .inl hs
  right
  obtain ⟨d, hd⟩ : ∃ d, scan t (K + 1) = some d := by
    cases h : scan t (K + 1) with
    | none => exact absurd h hs
    | some d => exact ⟨d, rfl⟩
  unfold scan at hd
  split at hd
  · rename_i hc
    obtain ⟨c1, c2, c3⟩ := hc
    have hda : d = (t.drop 8).take (lenAt t) := by simpa using hd.symm
    rw [← hda] at c3
    have h64 : 64 ≤ needN (lenAt t) * 64 := by omega
    -- the number
    have hm4 : 4 ≤ m := by
      refine Nat.le_of_not_lt fun hlt => ?_
      have e3 : t.getD 3 0 = 0 := by rw [hg, if_neg (by omega)]
      rw [← getD_take8 t (i := 3) (n := needN (lenAt t) * 64) (by omega), c3] at e3
      have : UInt8.ofNat (K + 1) = 0 := e3
      have := congrArg UInt8.toNat this
      simp at this
      omega
    have hla : lenAt t = l.length := by
      unfold lenAt
      rw [hg, hg, if_pos (by omega), if_pos (by omega)]
      show (UInt8.ofNat (l.length / 256)).toNat * 256 + (UInt8.ofNat l.length).toNat = l.length
      simp
      omega
    rw [hla] at c1 c2 c3 hda
    have hN2 : t.length = needN l.length * 64 := by omega
    rw [List.take_of_length_le (by omega)] at c3
    have hdl : d.length = l.length := by rw [hda, List.length_take, List.length_drop]; omega
    have hzero : m ≤ 8 → d = List.replicate l.length 0 := fun hm8 => by
      rw [hda, ht, List.drop_append, List.drop_of_length_le (by rw [List.length_take]; omega), List.nil_append, List.drop_replicate, List.take_replicate, List.length_take]
      congr 1
      omega
    have hm8 : 8 ≤ m := by
      refine Nat.le_of_not_lt fun hlt => ?_
      have e7 : t.getD 7 0 = 0 := by rw [hg, if_neg (by omega)]
      rw [c3] at e7
      have e7' : UInt8.ofNat (adler d) = 0 := e7
      have e8 := congrArg UInt8.toNat e7'
      have e9 := adler_low d (by rw [hzero (by omega), sumB_zeros]; omega)
      rw [hzero (by omega), sumB_zeros] at e9
      rw [hzero (by omega)] at e8
      simp at e8
      omega
    have hdd : d = l.take (m - 8) ++ List.replicate (l.length - (m - 8)) 0 := by
      rw [hda, ht, List.drop_append, List.length_take, Nat.min_eq_left hmR, show 8 - m = 0 by omega, List.drop_zero, List.drop_take]
      have : (recd l (K + 1)).drop 8 = l ++ List.replicate (needN l.length * 64 - (8 + l.length)) 0 := by
        show ((head8 l.length (K + 1) (adler l) ++ l) ++ _).drop 8 = _
        rw [List.append_assoc]
        exact List.drop_left' rfl
      rw [this]
      exact torn_data l _ (m - 8) j (by simp) (by omega)
    -- the sum
    have hsl : sumB l = sumB (l.take (m - 8)) + sumB (l.drop (m - 8)) := by rw [← sumB_append, List.take_append_drop]
    have hsd : sumB d = sumB (l.take (m - 8)) := by rw [hdd, sumB_append, sumB_zeros]; omega
    have a1 := adler_low l (by omega)
    have a2 := adler_low d (by omega)
    have b6 : UInt8.ofNat (adler d / 256) = UInt8.ofNat (adler l / 256) := by
      have e := hg 6
      rw [if_pos (by omega), c3] at e
      exact e
    have b7 : UInt8.ofNat (adler d) = UInt8.ofNat (adler l) := by
      have e := hg 7
      rw [if_pos (by omega), c3] at e
      exact e
    have b6' := congrArg UInt8.toNat b6
    have b7' := congrArg UInt8.toNat b7
    simp at b6' b7'
    have hz : sumB (l.drop (m - 8)) = 0 := by omega
    have hz' := sumB_zero hz
    rw [List.length_drop] at hz'
    have : d = l := by rw [hdd, ← hz', List.take_append_drop]
    rw [c3, this]
  · cases hd
theorem torn_crashG {bs l : Bs} {K n0 : Nat} {keep torn : Int} (hb : bs.length = n0 * 64) (h1 : 1 ≤ l.length) (h2 : l.length ≤ 1024) (hsum : sumB l + 1 < 65521) (hK : K + 1 ≤ 255) (k0 : 0 ≤ keep) (t0 : 0 ≤ torn) (t1 : torn ≤ 64) :
    ∃ t, (crashB (bs ++ recd l (K + 1)) (n0 + needN l.length) n0 keep torn).2 = bs ++ t ∧ (t = recd l (K + 1) ∨ (keep < (needN l.length : Int) ∧ scan t (K + 1) = none)) := by
  have hR := recd_length (K + 1) h1 h2
  generalize hN : needN l.length = N at *
  have hM : crashN (n0 + N) n0 keep = n0 + min keep.toNat N := by unfold crashN; omega
  unfold crashB
  rw [hM]
  by_cases ht : 0 < torn ∧ n0 + min keep.toNat N < n0 + N
  · rw [if_pos ht]
    refine ⟨(recd l (K + 1)).take (min keep.toNat N * 64 + torn.toNat) ++ List.replicate (64 - torn.toNat) 0, ?_, ?_⟩
    · simp only
      rw [List.take_append, List.take_of_length_le (by omega), List.append_assoc, show (n0 + min keep.toNat N) * 64 + torn.toNat - bs.length = min keep.toNat N * 64 + torn.toNat by omega]
    · rcases torn_scanG h1 h2 hsum hK (m := min keep.toNat N * 64 + torn.toNat) (j := 64 - torn.toNat) (by omega) rfl with h | h
      · exact .inr ⟨by omega, h⟩
      · exact .inl h
  · rw [if_neg ht]
    refine ⟨(recd l (K + 1)).take (min keep.toNat N * 64), ?_, ?_⟩
    · simp only
      rw [List.take_append, List.take_of_length_le (by omega), show (n0 + min keep.toNat N) * 64 - bs.length = min keep.toNat N * 64 by omega]
    · by_cases hk : N ≤ keep.toNat
      · left
        rw [Nat.min_eq_right hk]
        exact List.take_of_length_le (by omega)
      · rcases torn_scanG (t := (recd l (K + 1)).take (min keep.toNat N * 64)) h1 h2 hsum hK (m := min keep.toNat N * 64) (j := 0) (by omega) (by simp) with h | h
        · exact .inr ⟨by omega, h⟩
        · exact .inl h




theorem char_le {c : UInt8} (h : charOk c = true) : c.toNat ≤ 122 := by
  simp [charOk] at h
  omega
theorem sumB_chars : ∀ {l : Bs}, l.all charOk = true → sumB l ≤ l.length * 122
  | [], _ => by simp [sumB]
  | c :: l, h => by
    simp only [List.all_cons, Bool.and_eq_true] at h
    have h1 := char_le h.1
    have h2 := sumB_chars h.2
    simp only [sumB, List.map_cons, List.sum_cons, List.length_cons] at h2 ⊢
    omega
theorem sumB_num {n : Nat} (h : n < 18446744073709551616) : sumB (numE n) ≤ 2550 := by
  have h1 := sumB_le (numE n)
  have h2 := numE_64 h
  omega
theorem sumB_text {s : ByteArray} (h : s.size = 0 ∨ nameB s = true) : sumB (textE s) ≤ 5135 := by
  unfold textE
  have hs : s.size ≤ 40 := by
    rcases h with h | h
    · omega
    · simp [nameB] at h; omega
  have h1 := sumB_le (numE s.size)
  have h2 := numE_le 0 s.size (by omega)
  rw [sumB_append]
  have h3 : sumB s.data.toList ≤ 40 * 122 := by
    rcases h with h | h
    · have : s.data.toList = [] := List.eq_nil_of_length_eq_zero (by simpa using h)
      rw [this]; simp [sumB]
    · simp only [nameB, Bool.and_eq_true] at h
      have := sumB_chars h.1.1
      have e : s.data.toList.length = s.size := by simp
      rw [e] at this
      omega
  omega
theorem sumB_one (c : UInt8) : sumB [c] ≤ 255 := by
  have : c.toNat < 256 := c.toNat_lt
  simp [sumB]; omega
theorem right_each {o : Obj} (h : rightB o = true) : nameB o.name = true ∧ ∀ s ∈ textsO o, s.size = 0 ∨ nameB s = true := by
  simp only [rightB, formB, Bool.and_eq_true] at h
  refine ⟨h.1.1.1.1.1, fun s hs => ?_⟩
  have := (List.all_eq_true.1 h.1.1.1.2) s hs
  rw [Bool.or_eq_true] at this
  rcases this with h0 | h0
  · exact .inl (by simpa using h0)
  · exact .inr h0
theorem chE_sum {e : Ev} (ht : e.Typed) (h : rightB e.obj = true) : sumB (chE e) + 1 < 65521 := by
  obtain ⟨hn, hx⟩ := right_each h
  obtain ⟨hs, hg⟩ := right_sizes h
  obtain ⟨t1, t2, t3, t4, t5, t6, t7⟩ := ht.obj
  have x0 := sumB_text (.inr hn)
  have x1 := sumB_text (hx e.obj.cls (by simp [textsO])); have x2 := sumB_text (hx e.obj.zone (by simp [textsO])); have x3 := sumB_text (hx e.obj.node (by simp [textsO])); have x4 := sumB_text (hx e.obj.claim (by simp [textsO])); have x5 := sumB_text (hx e.obj.volume (by simp [textsO])); have x6 := sumB_text (hx e.obj.source (by simp [textsO]))
  have a1 := sumB_num (n := e.obj.version.toNat) (by omega); have a2 := sumB_num (n := e.obj.born.toNat) (by omega); have a3 := sumB_num (n := e.obj.num.toNat) (by omega); have a4 := sumB_num (n := e.obj.tag.toNat) (by omega); have a5 := sumB_num (n := e.obj.size.toNat) (by omega); have a6 := sumB_num (n := e.obj.got.toNat) (by omega)
  have a7 := sumB_num (n := e.version.toNat) (by have := ht.version; omega)
  have b1 := sumB_one (u8 e.obj.kind); have b2 := sumB_one (UInt8.ofNat (flagsE e.obj)); have b3 := sumB_one (u8 e.obj.mode); have b4 := sumB_one (u8 e.obj.phase); have b5 := sumB_one (UInt8.ofNat (bitE e.gone 1))
  simp only [chE, objE, sumB_append]
  omega

theorem crash_parsedG {ms : List (GKey × Obj)} {cs : List Ev} {n most : Nat} {o : Obj} {keep torn : Int} (hg : Good (cs.map chE)) (hn : (encs (cs.map chE) 0).length = n * 64) (hK : cs.length + 1 ≤ 255) (k0 : 0 ≤ keep) (t0 : 0 ≤ torn) (t1 : torn ≤ 64)
    (hl : (changeM ms cs o).1 = 0 → (changeM ms cs o).2.Typed ∧ rightB (changeM ms cs o).2.obj = true) :
    ∃ rs, Parsed (crashB (begunM ms cs n most o).2 (begunM ms cs n most o).1 n keep torn).2 rs ∧ (rs = cs.map chE ∨ ((changeM ms cs o).1 = 0 ∧ ¬ most - n < needN (chE (changeM ms cs o).2).length ∧ rs = (cs ++ [(changeM ms cs o).2]).map chE)) := by
  have stay : ∃ rs, Parsed (crashB (encs (cs.map chE) 0) n n keep torn).2 rs ∧ rs = cs.map chE := by
    refine ⟨_, ?_, rfl⟩
    have hc : crashN n n keep = n := by unfold crashN; omega
    unfold crashB
    rw [hc, if_neg (by omega)]
    simp only
    rw [List.take_of_length_le (by omega)]
    exact parsed_encs hg
  by_cases he : (changeM ms cs o).1 = 0
  · obtain ⟨l0, l3⟩ := hl he
    obtain ⟨l1, l2⟩ := chE_len l0 l3
    have l4 := chE_sum l0 l3
    by_cases hr : most - n < needN (chE (changeM ms cs o).2).length
    · have hb : begunM ms cs n most o = (n, encs (cs.map chE) 0) := by
        unfold begunM appF
        rw [if_pos he, if_neg (by omega), if_pos hr]
      rw [hb]
      obtain ⟨rs, h1, h2⟩ := stay
      exact ⟨rs, h1, .inl h2⟩
    · have hb : begunM ms cs n most o = (n + needN (chE (changeM ms cs o).2).length, encs (cs.map chE) 0 ++ recd (chE (changeM ms cs o).2) ((cs.map chE).length + 1)) := by
        unfold begunM appF
        rw [if_pos he, if_neg (by omega), if_neg hr]
      rw [hb]
      obtain ⟨t, ht, h | ⟨_, h⟩⟩ := torn_crashG (K := (cs.map chE).length) hn (by omega) (by omega) l4 (by simpa using hK) k0 t0 t1
      · refine ⟨_, ?_, .inr ⟨he, hr, rfl⟩⟩
        rw [ht, h, List.map_append]
        exact parsed_snoc rfl hg (by omega) (by omega)
      · refine ⟨_, ?_, .inl rfl⟩
        rw [ht]
        exact parsed_none rfl hg h
  · have hb : begunM ms cs n most o = (n, encs (cs.map chE) 0) := by
      unfold begunM
      rw [if_neg he]
    rw [hb]
    obtain ⟨rs, h1, h2⟩ := stay
    exact ⟨rs, h1, .inl h2⟩

end Go.Proofs.Ytobpohjhhelljaa
