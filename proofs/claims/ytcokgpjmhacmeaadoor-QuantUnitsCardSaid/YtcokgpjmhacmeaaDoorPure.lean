/- Layer 1 (quant), plainly: sizes as texts. -/
import Derived.WalkKit
import Derived.Lib.ItoaNum
import Derived.Lib.TrailingZeros
import Derived.Lib.SlTrimSet
import Derived.Lib.ParseIntB
namespace Go.Proofs.YtcokgpjmhacmeaaDoor
open Go.RowKit
set_option linter.unusedVariables false
set_option linter.unusedSimpArgs false

abbrev Bs := List UInt8

/-! ### units -/
def sfx : List (Bs × Nat) := [([], 1), ([75], 1000), ([75, 105], 1024), ([77], 1000000), ([77, 105], 1048576), ([71], 1000000000), ([71, 105], 1073741824), ([84], 1000000000000), ([84, 105], 1099511627776)]
def unitOf (r : Bs) : Option Nat := (sfx.find? fun x => decide (x.1 = r)).map (·.2)
theorem unitOf_none {r : Bs} (h : ∀ x ∈ sfx, x.1 ≠ r) : unitOf r = none := by
  unfold unitOf
  rw [List.find?_eq_none.2 (fun x hx => by simpa using h x hx)]; rfl
theorem unitOf_some {r : Bs} {pre rest : List (Bs × Nat)} {x : Bs × Nat} (e : sfx = pre ++ x :: rest) (h : ∀ y ∈ pre, y.1 ≠ r) (hx : x.1 = r) : unitOf r = some x.2 := by
  unfold unitOf
  rw [e, List.find?_append, List.find?_eq_none.2 (fun y hy => by simpa using h y hy)]
  simp [hx]
theorem unitOf_bnd {r : Bs} {u : Nat} (h : unitOf r = some u) : 1 ≤ u ∧ u ≤ 1099511627776 := by
  unfold unitOf at h
  cases hf : sfx.find? (fun x => decide (x.1 = r)) with
  | none => rw [hf] at h; cases h
  | some x =>
    rw [hf] at h
    have hm := List.mem_of_find?_eq_some hf
    have e : u = x.2 := by simpa using h.symm
    subst e
    have : ∀ x ∈ sfx, 1 ≤ x.2 ∧ x.2 ≤ 1099511627776 := by decide
    exact this x hm

/-! ### digits -/
def isD (c : UInt8) : Bool := decide (48 ≤ c.toNat) && decide (c.toNat ≤ 57)
def digs (s : Bs) : Bs := s.takeWhile isD
def rest (s : Bs) : Bs := s.dropWhile isD
def stepV (v : Nat) (c : UInt8) : Nat := v * 10 + (c.toNat - 48)
def val (d : Bs) : Nat := d.foldl stepV 0
theorem val_snoc (d : Bs) (c : UInt8) : val (d ++ [c]) = val d * 10 + (c.toNat - 48) := by simp [val, stepV]
theorem val_take (d : Bs) (k : Nat) (h : k < d.length) : val (d.take (k + 1)) = val (d.take k) * 10 + (d[k].toNat - 48) := by
  rw [List.take_succ_eq_append_getElem h, val_snoc]
theorem val_lt (d : Bs) (h : ∀ c ∈ d, isD c = true) : val d < 10 ^ d.length := by
  unfold val
  suffices ∀ (d : Bs), (∀ c ∈ d, isD c = true) → ∀ v n, v < 10 ^ n → d.foldl stepV v < 10 ^ (n + d.length) by simpa using this d h 0 0 (by decide)
  intro d
  induction d with
  | nil => intro _ v n hv; simpa using hv
  | cons c d ih =>
    intro h v n hv
    have hc : isD c = true := h c (by simp)
    simp only [isD, Bool.and_eq_true, decide_eq_true_eq] at hc
    have := ih (fun x hx => h x (by simp [hx])) (stepV v c) (n + 1) (by unfold stepV; rw [Nat.pow_succ]; omega)
    simp only [List.foldl_cons, List.length_cons]
    rw [show n + (d.length + 1) = n + 1 + d.length by omega]
    exact this
theorem digs_isD {s : Bs} : ∀ c ∈ digs s, isD c = true := fun c hc => by
  unfold digs at hc
  have := List.all_takeWhile (p := isD) (l := s)
  rw [List.all_eq_true] at this
  exact this c hc
theorem digs_rest (s : Bs) : digs s ++ rest s = s := List.takeWhile_append_dropWhile
theorem digs_length (s : Bs) : (digs s).length + (rest s).length = s.length := by
  have := congrArg List.length (digs_rest s)
  rwa [List.length_append] at this
theorem rest_head {s : Bs} {c : UInt8} {r : Bs} (h : rest s = c :: r) : isD c = false := by
  unfold rest at h
  cases hc : isD c with
  | false => rfl
  | true =>
    have := List.head?_dropWhile_not isD s
    rw [h] at this
    simp at this
    rw [hc] at this; cases this
theorem take_digs (s : Bs) : s.take (s.length - (rest s).length) = digs s := by
  have h1 := digs_rest s
  have h2 := digs_length s
  have : s.length - (rest s).length = (digs s).length := by omega
  rw [this]
  calc s.take (digs s).length = (digs s ++ rest s).take (digs s).length := by rw [h1]
    _ = digs s := List.take_left
theorem drop_digs (s : Bs) : s.drop (digs s).length = rest s := by
  calc s.drop (digs s).length = (digs s ++ rest s).drop (digs s).length := by rw [digs_rest]
    _ = rest s := List.drop_left
/-- what strings.TrimLeft at the ten digits gives -/
theorem trim_rest (s : Bs) : Lib.trimLeftS s [48, 49, 50, 51, 52, 53, 54, 55, 56, 57] = rest s := by
  unfold Lib.trimLeftS rest
  congr 1
  funext c
  have : ∀ c : Fin 256, ([48, 49, 50, 51, 52, 53, 54, 55, 56, 57] : Bs).contains (UInt8.ofNat c.val) = isD (UInt8.ofNat c.val) := by decide +kernel
  have h := this ⟨c.toNat, c.toNat_lt⟩
  simpa using h

/-! ### a text's size -/
def maxSize : Nat := 1125899906842624
def parseF (s : Bs) : Int × Int :=
  match unitOf (rest s) with
  | none => (0, 2)
  | some u =>
    if (digs s).length < 1 ∨ 16 < (digs s).length ∨ (1 < (digs s).length ∧ (digs s).head? = some 48) then (0, 2)
    else if val (digs s) * u ≤ maxSize then (((val (digs s) * u : Nat) : Int), 0) else (0, 3)

/-! ### a size's text -/
def sfxI (k : Nat) : Bs := match k with | 0 => [] | 1 => [75, 105] | 2 => [77, 105] | 3 => [71, 105] | _ => [84, 105]
def tz (n : Nat) : Nat := min (Lib.ctz 64 n / 10) 4
def printN (n : Nat) : Bs := if n = 0 then [48] else Lib.decDigits (n / 1024 ^ tz n) ++ sfxI (tz n)
def printF (n : Int) : Bs × Int := if n < 0 ∨ 1125899906842624 < n then ([], 3) else (printN n.toNat, 0)

theorem decDigits_isD (u : Nat) : ∀ c ∈ Lib.decDigits u, isD c = true := by
  induction u using Nat.strongRecOn with
  | _ u ih =>
    rw [Lib.decDigits]
    split
    · intro c hc
      simp at hc
      subst hc
      simp [isD]
      omega
    · intro c hc
      rcases List.mem_append.1 hc with h | h
      · exact ih _ (by omega) c h
      · simp at h
        subst h
        simp [isD]
        omega
theorem val_decDigits (u : Nat) : val (Lib.decDigits u) = u := by
  induction u using Nat.strongRecOn with
  | _ u ih =>
    rw [Lib.decDigits]
    split
    · simp [val, stepV]; omega
    · rw [val_snoc, ih _ (by omega)]
      simp
      omega
theorem decDigits_pos (u : Nat) : 1 ≤ (Lib.decDigits u).length := by rw [Lib.decDigits_length]; exact Lib.nDigits_pos u
theorem decDigits_head (u : Nat) (h : 1 ≤ u) : (Lib.decDigits u).head? ≠ some 48 := by
  induction u using Nat.strongRecOn with
  | _ u ih =>
    rw [Lib.decDigits]
    split
    · simp
      intro e
      have := congrArg UInt8.toNat e
      simp at this
      omega
    · have h1 := ih (u / 10) (by omega) (by omega)
      have h2 := decDigits_pos (u / 10)
      cases hd : Lib.decDigits (u / 10) with
      | nil => rw [hd] at h2; simp at h2
      | cons x y => rw [hd] at h1; simpa using h1
theorem nDigits_le {u k : Nat} (h : u < 10 ^ (k + 1)) : Lib.nDigits u ≤ k + 1 := by
  induction k generalizing u with
  | zero => rw [Lib.nDigits_small (by simpa using h)]; exact Nat.le_refl _
  | succ k ih =>
    by_cases h10 : u < 10
    · rw [Lib.nDigits_small h10]; omega
    · rw [Lib.nDigits_big h10]
      have := ih (u := u / 10) (by rw [Nat.pow_succ] at h; omega)
      omega
theorem takeWhile_all {p : UInt8 → Bool} {a b : Bs} (h : ∀ c ∈ a, p c = true) (hb : ∀ c, b.head? = some c → p c = false) : (a ++ b).takeWhile p = a ∧ (a ++ b).dropWhile p = b := by
  induction a with
  | nil =>
    cases b with
    | nil => simp
    | cons c b => have := hb c rfl; simp [List.takeWhile_cons, List.dropWhile_cons, this]
  | cons x a ih =>
    have hx := h x (by simp)
    obtain ⟨h1, h2⟩ := ih (fun c hc => h c (by simp [hc]))
    simp [List.takeWhile_cons, List.dropWhile_cons, hx, h1, h2]
theorem digs_app {a b : Bs} (h : ∀ c ∈ a, isD c = true) (hb : ∀ c, b.head? = some c → isD c = false) : digs (a ++ b) = a ∧ rest (a ++ b) = b := takeWhile_all h hb
/-- a numeral with a unit behind it -/
theorem parse_num {m u : Nat} {b : Bs} (hb : ∀ c, b.head? = some c → isD c = false) (hu : unitOf b = some u) (hm : m < 10000000000000000) (h0 : m = 0 ∨ 1 ≤ m) :
    parseF (Lib.decDigits m ++ b) = if m * u ≤ maxSize then (((m * u : Nat) : Int), 0) else (0, 3) := by
  obtain ⟨h1, h2⟩ := digs_app (decDigits_isD m) hb
  unfold parseF
  rw [h1, h2, hu]
  simp only
  have hl : (Lib.decDigits m).length ≤ 16 := by rw [Lib.decDigits_length]; exact nDigits_le (k := 15) (by omega)
  have hp := decDigits_pos m
  rw [if_neg, val_decDigits]
  rintro (h | h | ⟨h, h'⟩)
  · omega
  · omega
  · rcases h0 with rfl | h0
    · rw [Lib.decDigits_length, Lib.nDigits_small (by omega)] at h; omega
    · exact decDigits_head m h0 h'
theorem unit_sfxI (k : Nat) (hk : k ≤ 4) : unitOf (sfxI k) = some (1024 ^ k) ∧ ∀ c, (sfxI k).head? = some c → isD c = false := by
  match k, hk with
  | 0, _ => exact ⟨by decide, by simp [sfxI]⟩
  | 1, _ => exact ⟨by decide, by simp [sfxI]; decide⟩
  | 2, _ => exact ⟨by decide, by simp [sfxI]; decide⟩
  | 3, _ => exact ⟨by decide, by simp [sfxI]; decide⟩
  | 4, _ => exact ⟨by decide, by simp [sfxI]; decide⟩
theorem tz_dvd {n : Nat} (h0 : n ≠ 0) (h : n < 2 ^ 64) : 1024 ^ tz n ∣ n := by
  have h1 : Lib.ctz 64 n = Lib.ctzFrom 64 n := by unfold Lib.ctz; rw [if_neg h0]
  obtain ⟨m, hm, _⟩ := Lib.ctzFrom_spec 64 n (by omega) h
  rw [← h1] at hm
  have : 1024 ^ tz n = 2 ^ (10 * tz n) := by rw [Nat.pow_mul]
  rw [this]
  have h3 : 10 * tz n ≤ Lib.ctz 64 n := by unfold tz; omega
  refine Nat.dvd_trans (Nat.pow_dvd_pow 2 h3) ⟨2 * m + 1, hm⟩
theorem tz_odd {n : Nat} (h0 : n ≠ 0) (h : n < 2 ^ 64) (h4 : tz n < 4) : n / 1024 ^ tz n % 1024 ≠ 0 := by
  have h1 : Lib.ctz 64 n = Lib.ctzFrom 64 n := by unfold Lib.ctz; rw [if_neg h0]
  obtain ⟨m, hm, _⟩ := Lib.ctzFrom_spec 64 n (by omega) h
  rw [← h1] at hm
  have hp : 1024 ^ tz n = 2 ^ (10 * tz n) := by rw [Nat.pow_mul]
  have h3 : tz n = Lib.ctz 64 n / 10 := by unfold tz at h4 ⊢; omega
  have h5 : Lib.ctz 64 n = 10 * tz n + (Lib.ctz 64 n % 10) := by omega
  generalize Lib.ctz 64 n % 10 = r at h5
  have hr : r < 10 := by omega
  have e : n = 2 ^ (10 * tz n) * (2 ^ r * (2 * m + 1)) := by
    conv => lhs; rw [hm, h5]
    rw [Nat.pow_add, Nat.mul_assoc]
  rw [hp]
  conv => lhs; lhs; lhs; rw [e]
  rw [Nat.mul_div_cancel_left _ (Nat.pow_pos (by decide))]
  intro hz
  have h2 : 2 ^ r * (2 ^ (10 - r)) = 1024 := by rw [← Nat.pow_add, show r + (10 - r) = 10 by omega]
  obtain ⟨q, hq⟩ := Nat.dvd_of_mod_eq_zero hz
  rw [← h2, Nat.mul_assoc] at hq
  have h6 := Nat.eq_of_mul_eq_mul_left (Nat.pow_pos (by decide)) hq
  have h7 : 2 ^ (10 - r) = 2 * 2 ^ (9 - r) := by rw [show 10 - r = (9 - r) + 1 by omega, Nat.pow_succ, Nat.mul_comm]
  rw [h7, Nat.mul_assoc] at h6
  omega
theorem tz_le (n : Nat) : tz n ≤ 4 := by unfold tz; omega
/-- PARSE OF PRINT -/
theorem parse_print {n : Nat} (h : n ≤ maxSize) : parseF (printN n) = ((n : Int), 0) := by
  unfold printN
  unfold maxSize at h
  by_cases h0 : n = 0
  · subst h0; decide
  · rw [if_neg h0]
    obtain ⟨hu, hb⟩ := unit_sfxI (tz n) (tz_le n)
    have hd := Nat.div_mul_cancel (tz_dvd h0 (by omega))
    have hpos : 0 < 1024 ^ tz n := Nat.pow_pos (by decide)
    have hle : n / 1024 ^ tz n ≤ n := Nat.div_le_self _ _
    generalize n / 1024 ^ tz n = q at *
    rw [parse_num hb hu (by omega) (by omega), hd, if_pos (show n ≤ maxSize from h)]
theorem parseF_bnd (s : Bs) : 0 ≤ (parseF s).1 ∧ (parseF s).1 ≤ 1125899906842624 ∧ ((parseF s).2 = 0 ∨ ((parseF s).2 = 2 ∨ (parseF s).2 = 3) ∧ (parseF s).1 = 0) := by
  unfold parseF
  split
  · simp
  · split
    · simp
    · split
      · rename_i h; unfold maxSize at h; simp only; generalize val (digs s) * _ = q at *; exact ⟨by omega, by omega, by simp⟩
      · simp

/-! ### sizes rounded up -/
def upF (n u : Int) : Int × Int :=
  if n < 0 ∨ 1125899906842624 < n ∨ u < 1 ∨ 1125899906842624 < u then (0, 3) else if 1125899906842624 < (n + u - 1) / u * u then (0, 3) else ((n + u - 1) / u * u, 0)
theorem up_fact {n u : Int} (h0 : 0 ≤ n) (h1 : 1 ≤ u) : n ≤ (n + u - 1) / u * u ∧ (n + u - 1) / u * u - n < u ∧ (n + u - 1) / u * u % u = 0 := by
  have a := Int.mul_ediv_add_emod (n + u - 1) u
  have b := Int.emod_nonneg (n + u - 1) (show u ≠ 0 by omega)
  have c := Int.emod_lt_of_pos (n + u - 1) (show 0 < u by omega)
  rw [Int.mul_comm] at a
  refine ⟨by omega, by omega, Int.mul_emod_left _ _⟩
theorem up_ref {n u : Int} (h0 : 0 ≤ n) (h1 : 1 ≤ u) : (n + u - 1) / u = n / u + (if n % u = 0 then 0 else 1) := by
  have a := Int.mul_ediv_add_emod n u
  have b := Int.emod_nonneg n (show u ≠ 0 by omega)
  have c := Int.emod_lt_of_pos n (show 0 < u by omega)
  split
  · rename_i h
    rw [show n + u - 1 = (u - 1) + u * (n / u) by omega, Int.add_mul_ediv_left _ _ (by omega), Int.ediv_eq_zero_of_lt (by omega) (by omega)]
    omega
  · rename_i h
    rw [show n + u - 1 = (n % u - 1) + u * (n / u + 1) by rw [Int.mul_add, Int.mul_one]; omega, Int.add_mul_ediv_left _ _ (by omega), Int.ediv_eq_zero_of_lt (by omega) (by omega)]
    omega
theorem up_least {n u m : Int} (h0 : 0 ≤ n) (h1 : 1 ≤ u) (hm : n ≤ m) (hd : m % u = 0) : (n + u - 1) / u * u ≤ m := by
  obtain ⟨a, b, c⟩ := up_fact h0 h1
  obtain ⟨q, rfl⟩ := Int.dvd_of_emod_eq_zero hd
  generalize (n + u - 1) / u = p at *
  rw [Int.mul_comm u q] at *
  have : p ≤ q := by
    refine Int.not_lt.1 fun hlt => ?_
    have h2 : (q + 1) * u ≤ p * u := Int.mul_le_mul_of_nonneg_right (by omega) (by omega)
    rw [Int.add_mul, Int.one_mul] at h2
    omega
  exact Int.mul_le_mul_of_nonneg_right this (by omega)
theorem up_mono {a b u : Int} (h0 : 0 ≤ a) (hab : a ≤ b) (h1 : 1 ≤ u) : (a + u - 1) / u * u ≤ (b + u - 1) / u * u := by
  obtain ⟨x, y, z⟩ := up_fact (by omega : 0 ≤ b) h1
  exact up_least h0 h1 (by omega) z

end Go.Proofs.YtcokgpjmhacmeaaDoor
