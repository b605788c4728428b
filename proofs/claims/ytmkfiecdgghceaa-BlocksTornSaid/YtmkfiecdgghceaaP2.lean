/- Layer 5 (blocks), plainly: a torn record is whole or not there. -/
import Derived.Test.YtmkfiecdgghceaaPure
namespace Go.Proofs.Ytmkfiecdgghceaa
open Go.RowKit
set_option linter.unusedVariables false
set_option linter.unusedSimpArgs false

def sumB (l : Bs) : Nat := (l.map (·.toNat)).sum
theorem sumB_append (a b : Bs) : sumB (a ++ b) = sumB a + sumB b := by simp [sumB]
theorem sumB_zeros (n : Nat) : sumB (List.replicate n 0) = 0 := by simp [sumB]
theorem sumB_le (l : Bs) : sumB l ≤ l.length * 255 := by
  induction l with
  | nil => simp [sumB]
  | cons c l ih =>
    have : c.toNat < 256 := c.toNat_lt
    simp only [sumB, List.map_cons, List.sum_cons, List.length_cons] at ih ⊢
    omega
theorem sumB_zero {l : Bs} (h : sumB l = 0) : l = List.replicate l.length 0 := by
  induction l with
  | nil => rfl
  | cons c l ih =>
    simp only [sumB, List.map_cons, List.sum_cons] at h ih
    have h1 : c.toNat = 0 := by omega
    have h2 : c = 0 := UInt8.toNat_inj.1 h1
    rw [List.length_cons, List.replicate_succ, ← ih (by omega), h2]
theorem adl_fst (l : Bs) (h : sumB l + 1 < 65521) : (adl l).1 = 1 + sumB l := by
  unfold adl
  suffices ∀ (l : Bs) (s : Nat × Nat), s.1 + sumB l < 65521 → (l.foldl stepA s).1 = s.1 + sumB l by exact this l (1, 0) (by simp only; omega)
  intro l
  induction l with
  | nil => intro s _; simp [sumB]
  | cons c l ih =>
    intro s hs
    simp only [sumB, List.map_cons, List.sum_cons, List.foldl_cons] at hs ih ⊢
    rw [ih _ (by simp only [stepA]; rw [Nat.mod_eq_of_lt (by omega)]; omega)]
    simp only [stepA]
    rw [Nat.mod_eq_of_lt (by omega)]
    omega
theorem adler_low (l : Bs) (h : sumB l + 1 < 65521) : adler l % 65536 = 1 + sumB l := by
  unfold adler
  rw [adl_fst l h]
  omega

theorem getD_torn (R : Bs) (m j i : Nat) (hm : m ≤ R.length) : (R.take m ++ List.replicate j 0).getD i 0 = if i < m then R.getD i 0 else 0 := by
  simp only [List.getD]
  by_cases h : i < m
  · rw [if_pos h, List.getElem?_append_left (by rw [List.length_take]; omega), List.getElem?_take_of_lt h]
  · rw [if_neg h, List.getElem?_append_right (by rw [List.length_take]; omega), List.getElem?_replicate]
    split <;> rfl

theorem torn_data (l pad : Bs) (q j : Nat) (hp : pad = List.replicate pad.length 0) (hj : l.length ≤ q + j) : ((l ++ pad).take q ++ List.replicate j 0).take l.length = l.take q ++ List.replicate (l.length - q) 0 := by
  have e : (l ++ pad).take q = l.take q ++ pad.take (q - l.length) := List.take_append
  rw [e, List.append_assoc, List.take_append]
  by_cases h : l.length ≤ q
  · rw [List.take_of_length_le h, List.take_length, show l.length - l.length = 0 by omega, List.take_zero, show l.length - q = 0 by omega]; rfl
  · rw [show q - l.length = 0 by omega, List.take_zero, List.nil_append, List.length_take, Nat.min_eq_left (by omega), List.take_of_length_le (by rw [List.length_take]; omega), List.take_replicate, Nat.min_eq_left (by omega)]

theorem torn_scan {l t : Bs} {K m j : Nat} (h1 : 1 ≤ l.length) (h2 : l.length ≤ 120) (hK : K + 1 ≤ 255) (hm : m + j ≤ needN l.length * 64) (ht : t = (recd l (K + 1)).take m ++ List.replicate j 0) :
    scan t (K + 1) = none ∨ t = recd l (K + 1) := by
  have hR := recd_length (K + 1) h1 (by omega : l.length ≤ 1024)
  have hN := needN_of h1 (by omega : l.length ≤ 1024)
  have hmR : m ≤ (recd l (K + 1)).length := by omega
  have hg : ∀ i, t.getD i 0 = if i < m then (recd l (K + 1)).getD i 0 else 0 := fun i => by rw [ht]; exact getD_torn _ _ _ _ hmR
  have hlen : t.length = m + j := by rw [ht, List.length_append, List.length_take, List.length_replicate]; omega
  by_cases hs : scan t (K + 1) = none
  · exact .inl hs
  right
  obtain ⟨d, hd⟩ : ∃ d, scan t (K + 1) = some d := by
    cases h : scan t (K + 1) with
    | none => exact absurd h hs
    | some d => exact ⟨d, rfl⟩
  have hd0 := hd
  unfold scan at hd
  split at hd
  · rename_i hc
    obtain ⟨c1, c2, c3⟩ := hc
    have hda : d = (t.drop 8).take (lenAt t) := by simpa using hd.symm
    rw [← hda] at c3
    -- the length
    have hm2 : 2 ≤ m := by
      refine Nat.le_of_not_lt fun hlt => c1 (needN_bad (.inl ?_))
      have e0 : t.getD 0 0 = 0 := by
        rw [hg]
        split
        · show UInt8.ofNat (l.length / 256) = 0
          rw [Nat.div_eq_of_lt (by omega)]; rfl
        · rfl
      have e1 : t.getD 1 0 = 0 := by rw [hg, if_neg (by omega)]
      unfold lenAt
      rw [e0, e1]
      decide
    have hla : lenAt t = l.length := by
      unfold lenAt
      rw [hg, hg, if_pos (by omega), if_pos (by omega)]
      show (UInt8.ofNat (l.length / 256)).toNat * 256 + (UInt8.ofNat l.length).toNat = l.length
      simp
      omega
    rw [hla] at c1 c2 c3 hda
    have hN2 : t.length = needN l.length * 64 := by omega
    rw [List.take_of_length_le (by omega)] at c3
    have hdl : d.length = l.length := by rw [hda, List.length_take, List.length_drop]; omega
    -- the number
    have hm4 : 4 ≤ m := by
      refine Nat.le_of_not_lt fun hlt => ?_
      have e3 : t.getD 3 0 = 0 := by rw [hg, if_neg (by omega)]
      rw [c3] at e3
      have : UInt8.ofNat (K + 1) = 0 := e3
      have := congrArg UInt8.toNat this
      simp at this
      omega
    have hzero : m ≤ 8 → d = List.replicate l.length 0 := fun hm8 => by
      rw [hda, ht, List.drop_append, List.drop_of_length_le (by rw [List.length_take]; omega), List.nil_append, List.drop_replicate, List.take_replicate, List.length_take]
      congr 1
      omega
    have hm8 : 8 ≤ m := by
      refine Nat.le_of_not_lt fun hlt => ?_
      have e7 : t.getD 7 0 = 0 := by rw [hg, if_neg (by omega)]
      rw [c3] at e7
      have e7' : UInt8.ofNat (adler d) = 0 := e7
      have e8 := congrArg UInt8.toNat e7'
      have e9 := adler_low d (by rw [hzero (by omega), sumB_zeros]; omega)
      rw [hzero (by omega), sumB_zeros] at e9
      rw [hzero (by omega)] at e8
      simp at e8
      omega
    have hdd : d = l.take (m - 8) ++ List.replicate (l.length - (m - 8)) 0 := by
      rw [hda, ht, List.drop_append, List.length_take, Nat.min_eq_left hmR, show 8 - m = 0 by omega, List.drop_zero, List.drop_take]
      have : (recd l (K + 1)).drop 8 = l ++ List.replicate (needN l.length * 64 - (8 + l.length)) 0 := by
        show ((head8 l.length (K + 1) (adler l) ++ l) ++ _).drop 8 = _
        rw [List.append_assoc]
        exact List.drop_left' rfl
      rw [this]
      exact torn_data l _ (m - 8) j (by simp) (by omega)
    -- the sum
    have hle := sumB_le l
    have hsl : sumB l = sumB (l.take (m - 8)) + sumB (l.drop (m - 8)) := by rw [← sumB_append, List.take_append_drop]
    have hsd : sumB d = sumB (l.take (m - 8)) := by rw [hdd, sumB_append, sumB_zeros]; omega
    have a1 := adler_low l (by omega)
    have a2 := adler_low d (by omega)
    have b6 : UInt8.ofNat (adler d / 256) = UInt8.ofNat (adler l / 256) := by
      have e := hg 6
      rw [if_pos (by omega), c3] at e
      exact e
    have b7 : UInt8.ofNat (adler d) = UInt8.ofNat (adler l) := by
      have e := hg 7
      rw [if_pos (by omega), c3] at e
      exact e
    have b6' := congrArg UInt8.toNat b6
    have b7' := congrArg UInt8.toNat b7
    simp at b6' b7'
    have hz : sumB (l.drop (m - 8)) = 0 := by omega
    have hz' := sumB_zero hz
    rw [List.length_drop] at hz'
    have : d = l := by rw [hdd, ← hz', List.take_append_drop]
    rw [c3, this]
  · cases hd

theorem parsed_snoc {bs : Bs} {rs : List Bs} {l : Bs} (hb : bs = encs rs 0) (hg : Good rs) (h1 : 1 ≤ l.length) (h2 : l.length ≤ 1024) : Parsed (bs ++ recd l (rs.length + 1)) (rs ++ [l]) := by
  have : bs ++ recd l (rs.length + 1) = encs (rs ++ [l]) 0 := by rw [encs_append, hb]; simp [encs]
  rw [this]
  exact parsed_encs (fun r hr => by rcases List.mem_append.1 hr with h | h; exact hg r h; simp at h; subst h; exact ⟨h1, h2⟩)
theorem parsed_none {bs : Bs} {rs : List Bs} {t : Bs} (hb : bs = encs rs 0) (hg : Good rs) (h : scan t (rs.length + 1) = none) : Parsed (bs ++ t) rs := ⟨hg, t, by rw [hb], h⟩

end Go.Proofs.Ytmkfiecdgghceaa
