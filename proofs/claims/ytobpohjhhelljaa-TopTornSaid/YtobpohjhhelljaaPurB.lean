/- Layer 5 (blocks), plainly: a torn record is whole or not there. -/
import Derived.Test.YtobpohjhhelljaaByt
import Derived.WalkKit
namespace Go.Proofs.Ytobpohjhhelljaa
open Go.RowKit
set_option linter.unusedVariables false
set_option linter.unusedSimpArgs false

def stepA (s : Nat × Nat) (c : UInt8) : Nat × Nat := ((s.1 + c.toNat) % 65521, (s.2 + (s.1 + c.toNat) % 65521) % 65521)
def adl (l : Bs) : Nat × Nat := l.foldl stepA (1, 0)
def adler (l : Bs) : Nat := (adl l).2 * 65536 + (adl l).1
theorem adl_snoc (l : Bs) (c : UInt8) : adl (l ++ [c]) = stepA (adl l) c := by simp [adl]
theorem adl_take (l : Bs) (k : Nat) (h : k < l.length) : adl (l.take (k + 1)) = stepA (adl (l.take k)) l[k] := by
  rw [List.take_succ_eq_append_getElem h, adl_snoc]
theorem adl_lt (l : Bs) : (adl l).1 < 65521 ∧ (adl l).2 < 65521 := by
  unfold adl
  suffices ∀ (l : Bs) (s : Nat × Nat), s.1 < 65521 → s.2 < 65521 → (l.foldl stepA s).1 < 65521 ∧ (l.foldl stepA s).2 < 65521 by exact this l (1, 0) (by decide) (by decide)
  intro l
  induction l with
  | nil => intro s h1 h2; exact ⟨h1, h2⟩
  | cons c l ih => intro s _ _; exact ih _ (Nat.mod_lt _ (by decide)) (Nat.mod_lt _ (by decide))
theorem adler_lt (l : Bs) : adler l < 4294967296 := by
  have := adl_lt l
  unfold adler; omega

def need (n : Int) : Int := if n < 1 ∨ 1024 < n then 0 else 1 + (n + 7) / 64
def needN (n : Nat) : Nat := if n < 1 ∨ 1024 < n then 0 else 1 + (n + 7) / 64
theorem need_nat (n : Nat) : need n = (needN n : Int) := by
  unfold need needN
  by_cases h : n < 1 ∨ 1024 < n
  · rw [if_pos h, if_pos (by omega)]; rfl
  · rw [if_neg h, if_neg (by omega)]; omega
theorem needN_ok {n : Nat} (h : needN n ≠ 0) : 1 ≤ n ∧ n ≤ 1024 ∧ needN n = 1 + (n + 7) / 64 := by
  unfold needN at h ⊢
  by_cases h' : n < 1 ∨ 1024 < n
  · rw [if_pos h'] at h; exact absurd rfl h
  · rw [if_neg h']; exact ⟨by omega, by omega, rfl⟩
theorem needN_of {n : Nat} (h1 : 1 ≤ n) (h2 : n ≤ 1024) : needN n = 1 + (n + 7) / 64 := by unfold needN; rw [if_neg (by omega)]
theorem needN_bad {n : Nat} (h : n < 1 ∨ 1024 < n) : needN n = 0 := by unfold needN; rw [if_pos h]

/-- a record's head: its length, its number, its sum -/
def head8 (n k s : Nat) : Bs := [.ofNat (n / 256), .ofNat n, .ofNat (k / 256), .ofNat k, .ofNat (s / 16777216), .ofNat (s / 65536), .ofNat (s / 256), .ofNat s]
@[simp] theorem head8_length (n k s : Nat) : (head8 n k s).length = 8 := rfl
theorem head8_mod (n k s : Nat) : head8 n (k % 65536) s = head8 n k s := by
  unfold head8
  rw [show UInt8.ofNat (k % 65536 / 256) = UInt8.ofNat (k / 256) from UInt8.toNat_inj.1 (by simp; omega), show UInt8.ofNat (k % 65536) = UInt8.ofNat k from UInt8.toNat_inj.1 (by simp)]
def laid (b : Bs) (k : Nat) : Bs := head8 b.length k (adler b) ++ b
@[simp] theorem laid_length (b : Bs) (k : Nat) : (laid b k).length = 8 + b.length := by simp [laid]
/-- a record's bytes, up to the end of its last block -/
def recd (b : Bs) (k : Nat) : Bs := laid b k ++ List.replicate (needN b.length * 64 - (8 + b.length)) 0
theorem recd_length {b : Bs} (k : Nat) (h1 : 1 ≤ b.length) (h2 : b.length ≤ 1024) : (recd b k).length = needN b.length * 64 := by
  simp only [recd, List.length_append, laid_length, List.length_replicate, needN_of h1 h2]; omega
theorem recd_mod (b : Bs) (k : Nat) : recd b (k % 65536) = recd b k := by unfold recd laid; rw [head8_mod]

/-- the record that bytes begin with, if it is whole and has the number k -/
def lenAt (bs : Bs) : Nat := (bs.getD 0 0).toNat * 256 + (bs.getD 1 0).toNat
def scan (bs : Bs) (k : Nat) : Option Bs :=
  if needN (lenAt bs) ≠ 0 ∧ needN (lenAt bs) * 64 ≤ bs.length ∧ bs.take (needN (lenAt bs) * 64) = recd ((bs.drop 8).take (lenAt bs)) k then some ((bs.drop 8).take (lenAt bs)) else none

def enc : Bs → Nat → Bs := recd
/-- records one behind another, the first with the number k + 1 -/
def encs : List Bs → Nat → Bs
  | [], _ => []
  | r :: rs, k => recd r (k + 1) ++ encs rs (k + 1)
theorem encs_append (a b : List Bs) (k : Nat) : encs (a ++ b) k = encs a k ++ encs b (k + a.length) := by
  induction a generalizing k with
  | nil => simp [encs]
  | cons r a ih => simp only [List.cons_append, encs, ih, List.append_assoc, List.length_cons]; congr 3; omega
def Good (rs : List Bs) : Prop := ∀ r ∈ rs, 1 ≤ r.length ∧ r.length ≤ 1024
/-- what a log's bytes hold -/
def Parsed (bs : Bs) (rs : List Bs) : Prop := Good rs ∧ ∃ rest, bs = encs rs 0 ++ rest ∧ scan rest (rs.length + 1) = none

theorem scan_some {bs d : Bs} {k : Nat} (h : scan bs k = some d) : 1 ≤ d.length ∧ d.length ≤ 1024 ∧ ∃ rest, bs = recd d k ++ rest := by
  unfold scan at h
  split at h
  · rename_i hc
    obtain ⟨h1, h2, h3⟩ := hc
    obtain ⟨a1, a2, a3⟩ := needN_ok h1
    have hd : d = (bs.drop 8).take (lenAt bs) := by simpa using h.symm
    have hl : d.length = lenAt bs := by rw [hd, List.length_take, List.length_drop]; omega
    refine ⟨by omega, by omega, bs.drop (needN (lenAt bs) * 64), ?_⟩
    rw [hd, ← h3, List.take_append_drop]
  · cases h

theorem toNat_ofNat_div {n : Nat} (h : n ≤ 1024) : (UInt8.ofNat (n / 256)).toNat = n / 256 := by simp; omega
theorem lenAt_recd {d rest : Bs} {k : Nat} (h : d.length ≤ 1024) : lenAt (recd d k ++ rest) = d.length := by
  have : lenAt (recd d k ++ rest) = (UInt8.ofNat (d.length / 256)).toNat * 256 + (UInt8.ofNat d.length).toNat := rfl
  rw [this, toNat_ofNat_div h]; simp; omega
theorem drop8_recd {d rest : Bs} {k : Nat} : ((recd d k ++ rest).drop 8).take d.length = d := by
  have : recd d k ++ rest = head8 d.length k (adler d) ++ (d ++ (List.replicate (needN d.length * 64 - (8 + d.length)) 0 ++ rest)) := by simp [recd, laid, List.append_assoc]
  rw [this, show (8 : Nat) = (head8 d.length k (adler d)).length from rfl, List.drop_left, List.take_left]
theorem scan_recd {d : Bs} {k : Nat} (rest : Bs) (h1 : 1 ≤ d.length) (h2 : d.length ≤ 1024) : scan (recd d k ++ rest) k = some d := by
  unfold scan
  rw [lenAt_recd h2, drop8_recd]
  have hl := recd_length k h1 h2
  have hn := needN_of h1 h2
  rw [if_pos ⟨by omega, by rw [List.length_append]; omega, by rw [← hl]; simp⟩]
theorem scan_mono {bs d : Bs} {k : Nat} (h : scan bs k = some d) (x : Bs) : scan (bs ++ x) k = some d := by
  obtain ⟨h1, h2, rest, rfl⟩ := scan_some h
  rw [List.append_assoc]
  exact scan_recd _ h1 h2
theorem scan_nil (k : Nat) : scan [] k = none := by
  unfold scan
  rw [if_neg]
  intro h
  exact h.1 (needN_bad (by left; decide))

theorem parsed_unique_aux : ∀ (a b : List Bs) (x y : Bs) (k : Nat), Good a → Good b → encs a k ++ x = encs b k ++ y → scan x (k + a.length + 1) = none → a.length ≤ b.length → ∃ c, b = a ++ c ∧ x = encs c (k + a.length) ++ y := by
  intro a
  induction a with
  | nil => intro b x y k _ _ h _ _; exact ⟨b, rfl, by simpa [encs] using h⟩
  | cons r a ih =>
    intro b x y k ha hb h hx hl
    cases b with
    | nil => simp at hl
    | cons s b =>
      have hr := ha r (by simp)
      have hs := hb s (by simp)
      have e1 : scan (encs (r :: a) k ++ x) (k + 1) = some r := by simp only [encs, List.append_assoc]; exact scan_recd _ hr.1 hr.2
      have e2 : scan (encs (s :: b) k ++ y) (k + 1) = some s := by simp only [encs, List.append_assoc]; exact scan_recd _ hs.1 hs.2
      have : r = s := by rw [h, e2] at e1; simpa using e1.symm
      subst this
      simp only [encs, List.append_assoc] at h
      have h' := List.append_cancel_left h
      obtain ⟨c, hc, hc2⟩ := ih b x y (k + 1) (fun q hq => ha q (by simp [hq])) (fun q hq => hb q (by simp [hq])) h' (by rw [List.length_cons] at hx; rw [← hx]; congr 1; omega) (by simpa using hl)
      exact ⟨c, by rw [hc]; rfl, by rw [hc2, List.length_cons]; congr 2; omega⟩
theorem parsed_unique {bs : Bs} {a b : List Bs} (ha : Parsed bs a) (hb : Parsed bs b) : a = b := by
  obtain ⟨ga, x, hx, nx⟩ := ha
  obtain ⟨gb, y, hy, ny⟩ := hb
  rcases Nat.le_total a.length b.length with h | h
  · obtain ⟨c, rfl, hc⟩ := parsed_unique_aux a b x y 0 ga gb (hx.symm.trans hy) (by simpa using nx) h
    cases c with
    | nil => simp
    | cons s c =>
      have hs := gb s (by simp)
      rw [hc] at nx
      simp only [encs, List.append_assoc, Nat.zero_add] at nx
      rw [scan_recd _ hs.1 hs.2] at nx; cases nx
  · obtain ⟨c, rfl, hc⟩ := parsed_unique_aux b a y x 0 gb ga (hy.symm.trans hx) (by simpa using ny) h
    cases c with
    | nil => simp
    | cons s c =>
      have hs := ga s (by simp)
      rw [hc] at ny
      simp only [encs, List.append_assoc, Nat.zero_add] at ny
      rw [scan_recd _ hs.1 hs.2] at ny; cases ny
/-- bytes that go on have the records of their beginning first -/
theorem parsed_prefix {bs : Bs} {x : Bs} {a b : List Bs} (ha : Parsed bs a) (hb : Parsed (bs ++ x) b) : a <+: b := by
  obtain ⟨ga, u, hu, nu⟩ := ha
  obtain ⟨gb, y, hy, ny⟩ := hb
  rcases Nat.le_total b.length a.length with h | h
  · obtain ⟨c, rfl, hc⟩ := parsed_unique_aux b a y (u ++ x) 0 gb ga (by rw [← hy, hu, List.append_assoc]) (by simpa using ny) h
    cases c with
    | nil => simp
    | cons s c =>
      have hs := ga s (by simp)
      rw [hc] at ny
      simp only [encs, List.append_assoc, Nat.zero_add] at ny
      rw [scan_recd _ hs.1 hs.2] at ny; cases ny
  · suffices ∀ (a b : List Bs) (k : Nat) (u y : Bs), Good a → Good b → encs a k ++ u = encs b k ++ y → a.length ≤ b.length → a <+: b from this a b 0 (u ++ x) y ga gb (by rw [← hy, hu, List.append_assoc]) h
    intro a
    induction a with
    | nil => intro b _ _ _ _ _ _ _; exact List.nil_prefix
    | cons r a ih =>
      intro b k u y ha hb h hl
      cases b with
      | nil => simp at hl
      | cons s b =>
        have hr := ha r (by simp)
        have hs := hb s (by simp)
        have e1 : scan (encs (r :: a) k ++ u) (k + 1) = some r := by simp only [encs, List.append_assoc]; exact scan_recd _ hr.1 hr.2
        have e2 : scan (encs (s :: b) k ++ y) (k + 1) = some s := by simp only [encs, List.append_assoc]; exact scan_recd _ hs.1 hs.2
        have : r = s := by rw [h, e2] at e1; simpa using e1.symm
        subst this
        simp only [encs, List.append_assoc] at h
        obtain ⟨c, hc⟩ := ih b (k + 1) u y (fun q hq => ha q (by simp [hq])) (fun q hq => hb q (by simp [hq])) (List.append_cancel_left h) (by simpa using hl)
        exact ⟨c, by rw [← hc]; rfl⟩
/-- clean bytes -/
theorem parsed_encs {rs : List Bs} (h : Good rs) : Parsed (encs rs 0) rs := ⟨h, [], by simp, scan_nil _⟩
theorem parsed_nil : Parsed [] [] := parsed_encs (rs := []) (fun r h => by simp at h)

/-- the records, reckoned -/
def parse : Nat → Bs → Nat → List Bs
  | 0, _, _ => []
  | f + 1, bs, k => match scan bs (k + 1) with
    | none => []
    | some d => d :: parse f (bs.drop (needN d.length * 64)) (k + 1)
theorem parse_ok : ∀ (f : Nat) (bs : Bs) (k : Nat), bs.length ≤ f → Good (parse f bs k) ∧ ∃ rest, bs = encs (parse f bs k) k ++ rest ∧ scan rest (k + (parse f bs k).length + 1) = none := by
  intro f
  induction f with
  | zero => intro bs k h; have : bs = [] := List.eq_nil_of_length_eq_zero (by omega); subst this; exact ⟨fun r h => by simp [parse] at h, [], by simp [parse, encs], scan_nil _⟩
  | succ f ih =>
    intro bs k h
    cases hs : scan bs (k + 1) with
    | none => simp only [parse, hs]; exact ⟨fun r h => by simp at h, bs, by simp [encs], by simpa using hs⟩
    | some d =>
      obtain ⟨h1, h2, rest, rfl⟩ := scan_some hs
      have hl := recd_length (k + 1) h1 h2
      have hn := needN_of h1 h2
      have hd : (recd d (k + 1) ++ rest).drop (needN d.length * 64) = rest := by rw [← hl]; simp
      simp only [parse, hs, hd]
      obtain ⟨g, r', e, n⟩ := ih rest (k + 1) (by rw [List.length_append] at h; omega)
      refine ⟨fun r hr => by rcases List.mem_cons.1 hr with rfl | hr; exact ⟨h1, h2⟩; exact g r hr, r', ?_, ?_⟩
      · simp only [encs, List.append_assoc]; exact congrArg _ e
      · rw [List.length_cons]; rw [← n]; congr 1; omega
theorem parsed_exists (bs : Bs) : ∃ rs, Parsed bs rs := by
  obtain ⟨g, rest, e, n⟩ := parse_ok bs.length bs 0 (Nat.le_refl _)
  exact ⟨_, g, rest, e, by simpa using n⟩

theorem encs_length {rs : List Bs} (h : Good rs) (k : Nat) : (encs rs k).length = (rs.map fun r => needN r.length).sum * 64 := by
  induction rs generalizing k with
  | nil => rfl
  | cons r rs ih =>
    have hr := h r (by simp)
    simp only [encs, List.length_append, recd_length _ hr.1 hr.2, List.map_cons, List.sum_cons, ih (fun q hq => h q (by simp [hq]))]
    omega
theorem count_le {rs : List Bs} (h : Good rs) (k : Nat) : rs.length * 64 ≤ (encs rs k).length := by
  induction rs generalizing k with
  | nil => simp
  | cons r rs ih =>
    have hr := h r (by simp)
    have := ih (fun q hq => h q (by simp [hq])) (k + 1)
    simp only [encs, List.length_append, recd_length _ hr.1 hr.2, List.length_cons, needN_of hr.1 hr.2]
    omega

/-- is none of the bytes but zeros? -/
def allZ (l : Bs) : Bool := l.all fun c => decide (c = 0)
theorem allZ_iff {l : Bs} : allZ l = true ↔ l = List.replicate l.length 0 := by
  unfold allZ
  rw [List.all_eq_true, List.eq_replicate_iff]
  exact ⟨fun h => ⟨rfl, fun c hc => of_decide_eq_true (h c hc)⟩, fun h c hc => decide_eq_true (h.2 c hc)⟩
theorem scan_no_len {rest : Bs} {k : Nat} (h : needN (lenAt rest) = 0 ∨ rest.length < needN (lenAt rest) * 64) : scan rest k = none := by
  unfold scan
  rw [if_neg]
  rintro ⟨h1, h2, _⟩
  omega
theorem recd_data_length {rest : Bs} (h1 : needN (lenAt rest) ≠ 0) (h2 : needN (lenAt rest) * 64 ≤ rest.length) : ((rest.drop 8).take (lenAt rest)).length = lenAt rest ∧ 8 + lenAt rest ≤ needN (lenAt rest) * 64 := by
  obtain ⟨a1, a2, a3⟩ := needN_ok h1
  rw [List.length_take, List.length_drop]
  omega
theorem scan_yes {rest : Bs} {k : Nat} (h1 : needN (lenAt rest) ≠ 0) (h2 : needN (lenAt rest) * 64 ≤ rest.length) (h3 : laid ((rest.drop 8).take (lenAt rest)) k = (rest.take (needN (lenAt rest) * 64)).take (8 + lenAt rest)) (h4 : allZ ((rest.take (needN (lenAt rest) * 64)).drop (8 + lenAt rest)) = true) :
    scan rest k = some ((rest.drop 8).take (lenAt rest)) := by
  obtain ⟨hd, hle⟩ := recd_data_length h1 h2
  have hr : rest.take (needN (lenAt rest) * 64) = recd ((rest.drop 8).take (lenAt rest)) k := by
    unfold recd
    rw [hd, h3]
    have h5 := allZ_iff.1 h4
    have h6 : ((rest.take (needN (lenAt rest) * 64)).drop (8 + lenAt rest)).length = needN (lenAt rest) * 64 - (8 + lenAt rest) := by rw [List.length_drop, List.length_take]; omega
    rw [h6] at h5
    rw [← h5, List.take_append_drop]
  unfold scan
  rw [if_pos ⟨h1, h2, hr⟩]
theorem scan_no_head {rest : Bs} {k : Nat} (h1 : needN (lenAt rest) ≠ 0) (h2 : needN (lenAt rest) * 64 ≤ rest.length) (h3 : laid ((rest.drop 8).take (lenAt rest)) k ≠ (rest.take (needN (lenAt rest) * 64)).take (8 + lenAt rest)) : scan rest k = none := by
  obtain ⟨hd, hle⟩ := recd_data_length h1 h2
  unfold scan
  rw [if_neg]
  rintro ⟨_, _, h⟩
  refine h3 ?_
  rw [h]
  unfold recd
  rw [hd, List.take_left' (by rw [laid_length, hd])]
theorem scan_no_tail {rest : Bs} {k : Nat} (h1 : needN (lenAt rest) ≠ 0) (h2 : needN (lenAt rest) * 64 ≤ rest.length) (h4 : allZ ((rest.take (needN (lenAt rest) * 64)).drop (8 + lenAt rest)) = false) : scan rest k = none := by
  obtain ⟨hd, hle⟩ := recd_data_length h1 h2
  unfold scan
  rw [if_neg]
  rintro ⟨_, _, h⟩
  rw [h] at h4
  unfold recd at h4
  rw [hd, List.drop_left' (by rw [laid_length, hd])] at h4
  rw [allZ_iff.2 (by simp)] at h4
  cases h4
theorem scan_recd_yes {rest : Bs} {k : Nat} (h1 : needN (lenAt rest) ≠ 0) (h2 : needN (lenAt rest) * 64 ≤ rest.length) (h3 : recd ((rest.drop 8).take (lenAt rest)) k = rest.take (needN (lenAt rest) * 64)) : scan rest k = some ((rest.drop 8).take (lenAt rest)) := by
  unfold scan; rw [if_pos ⟨h1, h2, h3.symm⟩]
theorem scan_recd_no {rest : Bs} {k : Nat} (h3 : recd ((rest.drop 8).take (lenAt rest)) k ≠ rest.take (needN (lenAt rest) * 64)) : scan rest k = none := by
  unfold scan; rw [if_neg]; rintro ⟨_, _, h⟩; exact h3 h.symm



def sumB (l : Bs) : Nat := (l.map (·.toNat)).sum
theorem sumB_append (a b : Bs) : sumB (a ++ b) = sumB a + sumB b := by simp [sumB]
theorem sumB_zeros (n : Nat) : sumB (List.replicate n 0) = 0 := by simp [sumB]
theorem sumB_le (l : Bs) : sumB l ≤ l.length * 255 := by
  induction l with
  | nil => simp [sumB]
  | cons c l ih =>
    have : c.toNat < 256 := c.toNat_lt
    simp only [sumB, List.map_cons, List.sum_cons, List.length_cons] at ih ⊢
    omega
theorem sumB_zero {l : Bs} (h : sumB l = 0) : l = List.replicate l.length 0 := by
  induction l with
  | nil => rfl
  | cons c l ih =>
    simp only [sumB, List.map_cons, List.sum_cons] at h ih
    have h1 : c.toNat = 0 := by omega
    have h2 : c = 0 := UInt8.toNat_inj.1 h1
    rw [List.length_cons, List.replicate_succ, ← ih (by omega), h2]
theorem adl_fst (l : Bs) (h : sumB l + 1 < 65521) : (adl l).1 = 1 + sumB l := by
  unfold adl
  suffices ∀ (l : Bs) (s : Nat × Nat), s.1 + sumB l < 65521 → (l.foldl stepA s).1 = s.1 + sumB l by exact this l (1, 0) (by simp only; omega)
  intro l
  induction l with
  | nil => intro s _; simp [sumB]
  | cons c l ih =>
    intro s hs
    simp only [sumB, List.map_cons, List.sum_cons, List.foldl_cons] at hs ih ⊢
    rw [ih _ (by simp only [stepA]; rw [Nat.mod_eq_of_lt (by omega)]; omega)]
    simp only [stepA]
    rw [Nat.mod_eq_of_lt (by omega)]
    omega
theorem adler_low (l : Bs) (h : sumB l + 1 < 65521) : adler l % 65536 = 1 + sumB l := by
  unfold adler
  rw [adl_fst l h]
  omega

theorem getD_torn (R : Bs) (m j i : Nat) (hm : m ≤ R.length) : (R.take m ++ List.replicate j 0).getD i 0 = if i < m then R.getD i 0 else 0 := by
  simp only [List.getD]
  by_cases h : i < m
  · rw [if_pos h, List.getElem?_append_left (by rw [List.length_take]; omega), List.getElem?_take_of_lt h]
  · rw [if_neg h, List.getElem?_append_right (by rw [List.length_take]; omega), List.getElem?_replicate]
    split <;> rfl

theorem torn_data (l pad : Bs) (q j : Nat) (hp : pad = List.replicate pad.length 0) (hj : l.length ≤ q + j) : ((l ++ pad).take q ++ List.replicate j 0).take l.length = l.take q ++ List.replicate (l.length - q) 0 := by
  have e : (l ++ pad).take q = l.take q ++ pad.take (q - l.length) := List.take_append
  rw [e, List.append_assoc, List.take_append]
  by_cases h : l.length ≤ q
  · rw [List.take_of_length_le h, List.take_length, show l.length - l.length = 0 by omega, List.take_zero, show l.length - q = 0 by omega]; rfl
  · rw [show q - l.length = 0 by omega, List.take_zero, List.nil_append, List.length_take, Nat.min_eq_left (by omega), List.take_of_length_le (by rw [List.length_take]; omega), List.take_replicate, Nat.min_eq_left (by omega)]

theorem torn_scan {l t : Bs} {K m j : Nat} (h1 : 1 ≤ l.length) (h2 : l.length ≤ 120) (hK : K + 1 ≤ 255) (hm : m + j ≤ needN l.length * 64) (ht : t = (recd l (K + 1)).take m ++ List.replicate j 0) :
    scan t (K + 1) = none ∨ t = recd l (K + 1) := by
  have hR := recd_length (K + 1) h1 (by omega : l.length ≤ 1024)
  have hN := needN_of h1 (by omega : l.length ≤ 1024)
  have hmR : m ≤ (recd l (K + 1)).length := by omega
  have hg : ∀ i, t.getD i 0 = if i < m then (recd l (K + 1)).getD i 0 else 0 := fun i => by rw [ht]; exact getD_torn _ _ _ _ hmR
  have hlen : t.length = m + j := by rw [ht, List.length_append, List.length_take, List.length_replicate]; omega
  by_cases hs : scan t (K + 1) = none
  · exact .inl hs
  right
  obtain ⟨d, hd⟩ : ∃ d, scan t (K + 1) = some d := by
    cases h : scan t (K + 1) with
    | none => exact absurd h hs
    | some d => exact ⟨d, rfl⟩
  have hd0 := hd
  unfold scan at hd
  split at hd
  · rename_i hc
    obtain ⟨c1, c2, c3⟩ := hc
    have hda : d = (t.drop 8).take (lenAt t) := by simpa using hd.symm
    rw [← hda] at c3
    -- the length
    have hm2 : 2 ≤ m := by
      refine Nat.le_of_not_lt fun hlt => c1 (needN_bad (.inl ?_))
      have e0 : t.getD 0 0 = 0 := by
        rw [hg]
        split
        · show UInt8.ofNat (l.length / 256) = 0
          rw [Nat.div_eq_of_lt (by omega)]; rfl
        · rfl
      have e1 : t.getD 1 0 = 0 := by rw [hg, if_neg (by omega)]
      unfold lenAt
      rw [e0, e1]
      decide
    have hla : lenAt t = l.length := by
      unfold lenAt
      rw [hg, hg, if_pos (by omega), if_pos (by omega)]
      show (UInt8.ofNat (l.length / 256)).toNat * 256 + (UInt8.ofNat l.length).toNat = l.length
      simp
      omega
    rw [hla] at c1 c2 c3 hda
    have hN2 : t.length = needN l.length * 64 := by omega
    rw [List.take_of_length_le (by omega)] at c3
    have hdl : d.length = l.length := by rw [hda, List.length_take, List.length_drop]; omega
    -- the number
    have hm4 : 4 ≤ m := by
      refine Nat.le_of_not_lt fun hlt => ?_
      have e3 : t.getD 3 0 = 0 := by rw [hg, if_neg (by omega)]
      rw [c3] at e3
      have : UInt8.ofNat (K + 1) = 0 := e3
      have := congrArg UInt8.toNat this
      simp at this
      omega
    have hzero : m ≤ 8 → d = List.replicate l.length 0 := fun hm8 => by
      rw [hda, ht, List.drop_append, List.drop_of_length_le (by rw [List.length_take]; omega), List.nil_append, List.drop_replicate, List.take_replicate, List.length_take]
      congr 1
      omega
    have hm8 : 8 ≤ m := by
      refine Nat.le_of_not_lt fun hlt => ?_
      have e7 : t.getD 7 0 = 0 := by rw [hg, if_neg (by omega)]
      rw [c3] at e7
      have e7' : UInt8.ofNat (adler d) = 0 := e7
      have e8 := congrArg UInt8.toNat e7'
      have e9 := adler_low d (by rw [hzero (by omega), sumB_zeros]; omega)
      rw [hzero (by omega), sumB_zeros] at e9
      rw [hzero (by omega)] at e8
      simp at e8
      omega
    have hdd : d = l.take (m - 8) ++ List.replicate (l.length - (m - 8)) 0 := by
      rw [hda, ht, List.drop_append, List.length_take, Nat.min_eq_left hmR, show 8 - m = 0 by omega, List.drop_zero, List.drop_take]
      have : (recd l (K + 1)).drop 8 = l ++ List.replicate (needN l.length * 64 - (8 + l.length)) 0 := by
        show ((head8 l.length (K + 1) (adler l) ++ l) ++ _).drop 8 = _
        rw [List.append_assoc]
        exact List.drop_left' rfl
      rw [this]
      exact torn_data l _ (m - 8) j (by simp) (by omega)
    -- the sum
    have hle := sumB_le l
    have hsl : sumB l = sumB (l.take (m - 8)) + sumB (l.drop (m - 8)) := by rw [← sumB_append, List.take_append_drop]
    have hsd : sumB d = sumB (l.take (m - 8)) := by rw [hdd, sumB_append, sumB_zeros]; omega
    have a1 := adler_low l (by omega)
    have a2 := adler_low d (by omega)
    have b6 : UInt8.ofNat (adler d / 256) = UInt8.ofNat (adler l / 256) := by
      have e := hg 6
      rw [if_pos (by omega), c3] at e
      exact e
    have b7 : UInt8.ofNat (adler d) = UInt8.ofNat (adler l) := by
      have e := hg 7
      rw [if_pos (by omega), c3] at e
      exact e
    have b6' := congrArg UInt8.toNat b6
    have b7' := congrArg UInt8.toNat b7
    simp at b6' b7'
    have hz : sumB (l.drop (m - 8)) = 0 := by omega
    have hz' := sumB_zero hz
    rw [List.length_drop] at hz'
    have : d = l := by rw [hdd, ← hz', List.take_append_drop]
    rw [c3, this]
  · cases hd

theorem parsed_snoc {bs : Bs} {rs : List Bs} {l : Bs} (hb : bs = encs rs 0) (hg : Good rs) (h1 : 1 ≤ l.length) (h2 : l.length ≤ 1024) : Parsed (bs ++ recd l (rs.length + 1)) (rs ++ [l]) := by
  have : bs ++ recd l (rs.length + 1) = encs (rs ++ [l]) 0 := by rw [encs_append, hb]; simp [encs]
  rw [this]
  exact parsed_encs (fun r hr => by rcases List.mem_append.1 hr with h | h; exact hg r h; simp at h; subst h; exact ⟨h1, h2⟩)
theorem parsed_none {bs : Bs} {rs : List Bs} {t : Bs} (hb : bs = encs rs 0) (hg : Good rs) (h : scan t (rs.length + 1) = none) : Parsed (bs ++ t) rs := ⟨hg, t, by rw [hb], h⟩

end Go.Proofs.Ytobpohjhhelljaa
