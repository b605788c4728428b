/- Layer 4 (codec), plainly: what bytes say, and which bytes are written. -/
import Derived.Test.YtobpohjhhelljaaO5
namespace Go.Proofs.Ytobpohjhhelljaa
open Go.RowKit
set_option linter.unusedVariables false
set_option linter.unusedSimpArgs false


abbrev Bs := List UInt8

/-- a number's bytes -/
def numE (n : Nat) : Bs := if n < 128 then [UInt8.ofNat n] else UInt8.ofNat (n % 128 + 128) :: numE (n / 128)
termination_by n
decreasing_by omega

/-- a number, from its byte i on -/
def numD : Nat → Bs → Option (Nat × Bs)
  | _, [] => none
  | i, c :: r =>
    if 9 < i then none
    else if i = 9 ∧ 1 < c.toNat then none
    else if c.toNat < 128 then (if c.toNat = 0 ∧ 0 < i then none else some (c.toNat, r))
    else match numD (i + 1) r with
      | none => none
      | some (n, r') => some (c.toNat % 128 + 128 * n, r')

theorem numE_small {n : Nat} (h : n < 128) : numE n = [UInt8.ofNat n] := by unfold numE; simp [h]
theorem numE_great {n : Nat} (h : ¬ n < 128) : numE n = UInt8.ofNat (n % 128 + 128) :: numE (n / 128) := by rw [numE]; simp [h]

theorem pow_step {i : Nat} (h : i ≤ 8) : 2 ^ (64 - 7 * i) = 128 * 2 ^ (64 - 7 * (i + 1)) := by
  have e : 64 - 7 * i = (64 - 7 * (i + 1)) + 7 := by omega
  rw [e, Nat.pow_add]; omega
theorem pow_ge {i : Nat} (h : i ≤ 8) : 256 ≤ 2 ^ (64 - 7 * i) := by
  have : 2 ^ 8 ≤ 2 ^ (64 - 7 * i) := Nat.pow_le_pow_right (by omega) (by omega)
  omega

theorem numD_numE (n : Nat) : ∀ (i : Nat) (r : Bs), i ≤ 9 → n < 2 ^ (64 - 7 * i) → (0 < i → 0 < n) → numD i (numE n ++ r) = some (n, r) := by
  induction n using Nat.strongRecOn with
  | _ n ih =>
    intro i r hi hn h0
    by_cases hs : n < 128
    · rw [numE_small hs]
      have e : (UInt8.ofNat n).toNat = n := by simp; omega
      have h9 : ¬ (i = 9 ∧ 1 < n) := by
        rintro ⟨rfl, h⟩
        simp at hn; omega
      have hz : ¬ (n = 0 ∧ 0 < i) := by rintro ⟨rfl, h⟩; exact absurd (h0 h) (by omega)
      simp only [List.cons_append, List.nil_append, numD, e]
      rw [if_neg (by omega), if_neg h9, if_pos hs, if_neg hz]
    · rw [numE_great hs]
      have e : (UInt8.ofNat (n % 128 + 128)).toNat = n % 128 + 128 := by simp; omega
      have hi8 : i ≤ 8 := by
        by_cases h : i = 9
        · subst h; simp at hn; omega
        · omega
      have hp := pow_step hi8
      have h1 := ih (n / 128) (by omega) (i + 1) r (by omega) (by omega) (by omega)
      simp only [List.cons_append, numD, e, h1]
      rw [if_neg (by omega), if_neg (by omega), if_neg (by omega)]
      simp only [Option.some.injEq, Prod.mk.injEq, and_true]
      omega

theorem numD_some (bs : Bs) : ∀ (i n : Nat) (r : Bs), numD i bs = some (n, r) → bs = numE n ++ r ∧ (0 < i → 0 < n) ∧ n < 2 ^ (64 - 7 * i) ∧ i ≤ 9 := by
  induction bs with
  | nil => intro i n r h; simp [numD] at h
  | cons c t ih =>
    intro i n r h
    simp only [numD] at h
    split at h
    · cases h
    split at h
    · cases h
    split at h
    · split at h
      · cases h
      · cases h
        rename_i h1 h2 h3 h4
        refine ⟨?_, by omega, ?_, by omega⟩
        · rw [numE_small h3]
          simp
        · by_cases h9 : i = 9
          · subst h9; simp; omega
          · have := pow_ge (i := i) (by omega); omega
    · split at h
      · cases h
      · rename_i h1 h2 h3 _ n' r' h4
        cases h
        obtain ⟨e, h5, h6, h7⟩ := ih _ _ _ h4
        have hc := c.toNat_lt
        have hp := pow_step (i := i) (by omega)
        have h5' := h5 (by omega)
        refine ⟨?_, by omega, by omega, by omega⟩
        rw [numE_great (by omega), e]
        have e1 : (c.toNat % 128 + 128 * n') % 128 + 128 = c.toNat := by omega
        have e2 : (c.toNat % 128 + 128 * n') / 128 = n' := by omega
        rw [e1, e2]
        simp

theorem numD_0 {n : Nat} (r : Bs) (h : n < 18446744073709551616) : numD 0 (numE n ++ r) = some (n, r) := numD_numE n 0 r (by omega) (by simpa using h) (by omega)
theorem numD_shorter {i n : Nat} {bs r : Bs} (h : numD i bs = some (n, r)) : r.length < bs.length := by
  obtain ⟨e, _⟩ := numD_some _ _ _ _ h
  have hl : 1 ≤ (numE n).length := by rw [numE]; split <;> simp
  rw [e, List.length_append]; omega

/-- a byte -/
def byteD : Bs → Option (UInt8 × Bs)
  | [] => none
  | c :: r => some (c, r)

/-- bytes as a text -/
def textOf (l : Bs) : ByteArray := ⟨l.toArray⟩
@[simp] theorem textOf_size (l : Bs) : (textOf l).size = l.length := rfl
@[simp] theorem textOf_bytes (l : Bs) : (textOf l).data.toList = l := rfl
@[simp] theorem textOf_data (s : ByteArray) : textOf s.data.toList = s := rfl
def textE (s : ByteArray) : Bs := numE s.size ++ s.data.toList
/-- a text of at most L bytes -/
def textD (L : Nat) (bs : Bs) : Option (ByteArray × Bs) :=
  match numD 0 bs with
  | none => none
  | some (n, r) => if n ≤ L ∧ n ≤ r.length then some (textOf (r.take n), r.drop n) else none
theorem textD_textE {L : Nat} {s : ByteArray} (r : Bs) (h : s.size ≤ L) (hm : s.size < 18446744073709551616) : textD L (textE s ++ r) = some (s, r) := by
  unfold textD textE
  rw [List.append_assoc, numD_0 _ hm]
  have e : s.data.toList.length = s.size := by simp
  have e1 : s.size ≤ s.data.toList.length + r.length := by omega
  simp only [List.length_append, h, e1, and_self, if_true]
  rw [← e, List.take_left, List.drop_left, textOf_data]
theorem textD_some {L : Nat} {bs r : Bs} {s : ByteArray} (h : textD L bs = some (s, r)) : bs = textE s ++ r ∧ s.size ≤ L ∧ s.size < 18446744073709551616 := by
  unfold textD at h
  split at h
  · cases h
  · rename_i n t hn
    obtain ⟨e, _, hb, _⟩ := numD_some _ _ _ _ hn
    split at h
    · rename_i hl
      cases h
      have e1 : (textOf (t.take n)).size = n := by simp; omega
      refine ⟨?_, by omega, by simpa [e1] using hb⟩
      unfold textE
      rw [e1, textOf_bytes, List.append_assoc, List.take_append_drop, e]
    · cases h
theorem textD_more {L M : Nat} {bs r : Bs} {s : ByteArray} (h : textD M bs = some (s, r)) (hs : s.size ≤ L) : textD L bs = some (s, r) := by
  obtain ⟨e, h1, h2⟩ := textD_some h
  rw [e]; exact textD_textE _ hs h2

/-- a size -/
def sizeD (bs : Bs) : Option (Nat × Bs) :=
  match numD 0 bs with
  | none => none
  | some (n, r) => if n ≤ 1125899906842624 then some (n, r) else none
theorem sizeD_numE {n : Nat} (r : Bs) (h : n ≤ 1125899906842624) : sizeD (numE n ++ r) = some (n, r) := by
  unfold sizeD
  rw [numD_0 _ (by omega)]
  simp [h]
theorem sizeD_some {bs r : Bs} {n : Nat} (h : sizeD bs = some (n, r)) : bs = numE n ++ r ∧ n ≤ 1125899906842624 := by
  unfold sizeD at h
  split at h
  · cases h
  · rename_i n' t hn
    obtain ⟨e, _, hb, _⟩ := numD_some _ _ _ _ hn
    split at h
    · cases h; exact ⟨e, by assumption⟩
    · cases h

def bitE (b : Bool) (k : Nat) : Nat := if b then k else 0
def flagsE (o : Obj) : Nat := bitE o.deleting 1 + bitE o.hold 2 + bitE o.keep 4 + bitE o.wait 8
/-- a byte below 16: the flags -/
def flagsD (bs : Bs) : Option (Nat × Bs) :=
  match bs with
  | [] => none
  | c :: r => if c.toNat < 16 then some (c.toNat, r) else none
def u8 (k : Int) : UInt8 := UInt8.ofNat k.toNat

/-- an object's bytes -/
def objE (o : Obj) : Bs :=
  [u8 o.kind] ++ (textE o.name ++ (numE o.version.toNat ++ (numE o.born.toNat ++ ([UInt8.ofNat (flagsE o)] ++ (textE o.cls ++ (numE o.size.toNat ++ (numE o.got.toNat ++ ([u8 o.mode] ++
  (textE o.zone ++ (textE o.node ++ (textE o.claim ++ (textE o.volume ++ (textE o.source ++ ([u8 o.phase] ++ (numE o.num.toNat ++ numE o.tag.toNat)))))))))))))))

abbrev wd {α β : Type} (x : Option (α × Bs)) (f : α → Bs → Option β) : Option β := match x with
  | none => none
  | some (a, r) => f a r

/-- an object, right or not, its texts of at most L bytes -/
def fieldsD (L : Nat) (bs : Bs) : Option (Obj × Bs) :=
  wd (byteD bs) fun k bs => wd (textD L bs) fun name bs => wd (numD 0 bs) fun ver bs => wd (numD 0 bs) fun born bs => wd (flagsD bs) fun f bs =>
  wd (textD L bs) fun cls bs => wd (sizeD bs) fun size bs => wd (sizeD bs) fun got bs => wd (byteD bs) fun mode bs =>
  wd (textD L bs) fun zone bs => wd (textD L bs) fun node bs => wd (textD L bs) fun claim bs => wd (textD L bs) fun volume bs => wd (textD L bs) fun source bs =>
  wd (byteD bs) fun phase bs => wd (numD 0 bs) fun num bs => wd (numD 0 bs) fun tag bs =>
  some (⟨k.toNat, name, ver, born, f % 2 == 1, f / 2 % 2 == 1, cls, size, got, mode.toNat, f / 4 % 2 == 1, f / 8 % 2 == 1, zone, node, claim, volume, source, phase.toNat, num, tag⟩, bs)

/-- an object that is right -/
def objD (L : Nat) (bs : Bs) : Option (Obj × Bs) := wd (fieldsD L bs) fun o bs => if rightB o then some (o, bs) else none
/-- all bytes as an object -/
def readD (bs : Bs) : Option Obj := wd (objD 40 bs) fun o bs => if bs = [] then some o else none

structure Obj.Typed (o : Obj) : Prop where
  kind : 0 ≤ o.kind ∧ o.kind < 256
  version : 0 ≤ o.version ∧ o.version < 18446744073709551616
  born : 0 ≤ o.born ∧ o.born < 18446744073709551616
  mode : 0 ≤ o.mode ∧ o.mode < 256
  phase : 0 ≤ o.phase ∧ o.phase < 256
  num : 0 ≤ o.num ∧ o.num < 18446744073709551616
  tag : 0 ≤ o.tag ∧ o.tag < 18446744073709551616

theorem right_named {o : Obj} (h : rightB o = true) : 1 ≤ o.name.size := by
  simp only [rightB, formB, Bool.and_eq_true] at h
  obtain ⟨⟨⟨⟨⟨h1, _⟩, h2⟩, _⟩, _⟩, _⟩ := h
  simp only [nameB, Bool.and_eq_true, decide_eq_true_eq] at h1
  omega
theorem right_texts {o : Obj} (h : rightB o = true) : o.name.size ≤ 40 ∧ ∀ s ∈ textsO o, s.size ≤ 40 := by
  simp only [rightB, formB, Bool.and_eq_true] at h
  obtain ⟨⟨⟨⟨⟨h1, _⟩, h2⟩, _⟩, _⟩, _⟩ := h
  refine ⟨?_, fun s hs => ?_⟩
  · simp only [nameB, Bool.and_eq_true, decide_eq_true_eq] at h1; exact h1.2
  · have := List.all_eq_true.1 h2 s hs
    simp only [nameB, Bool.or_eq_true, Bool.and_eq_true, decide_eq_true_eq] at this
    omega
theorem right_sizes {o : Obj} (h : rightB o = true) : (0 ≤ o.size ∧ o.size ≤ 1125899906842624) ∧ (0 ≤ o.got ∧ o.got ≤ 1125899906842624) := by
  simp only [rightB, formB, sizeB, Bool.and_eq_true, decide_eq_true_eq] at h
  obtain ⟨⟨⟨⟨⟨h1, _⟩, h2⟩, h3⟩, h4⟩, _⟩ := h
  exact ⟨h3, h4⟩

theorem u8_nat {k : Int} (h : 0 ≤ k ∧ k < 256) : (((u8 k).toNat : Nat) : Int) = k := by
  unfold u8; simp; omega
theorem flags_back (a b c d : Bool) : (bitE a 1 + bitE b 2 + bitE c 4 + bitE d 8) < 16 ∧ ((bitE a 1 + bitE b 2 + bitE c 4 + bitE d 8) % 2 == 1) = a ∧ ((bitE a 1 + bitE b 2 + bitE c 4 + bitE d 8) / 2 % 2 == 1) = b ∧ ((bitE a 1 + bitE b 2 + bitE c 4 + bitE d 8) / 4 % 2 == 1) = c ∧ ((bitE a 1 + bitE b 2 + bitE c 4 + bitE d 8) / 8 % 2 == 1) = d := by
  cases a <;> cases b <;> cases c <;> cases d <;> decide
theorem flags_there : ∀ f : Nat, f < 16 → bitE (f % 2 == 1) 1 + bitE (f / 2 % 2 == 1) 2 + bitE (f / 4 % 2 == 1) 4 + bitE (f / 8 % 2 == 1) 8 = f := by decide

theorem fieldsD_objE {o : Obj} (L : Nat) (r : Bs) (ht : o.Typed) (h : rightB o = true) (hL : 40 ≤ L) : fieldsD L (objE o ++ r) = some (o, r) := by
  obtain ⟨hn, hx⟩ := right_texts h
  obtain ⟨hs, hg⟩ := right_sizes h
  have x1 := hx o.cls (by simp [textsO]); have x2 := hx o.zone (by simp [textsO]); have x3 := hx o.node (by simp [textsO]); have x4 := hx o.claim (by simp [textsO]); have x5 := hx o.volume (by simp [textsO]); have x6 := hx o.source (by simp [textsO])
  obtain ⟨f1, f2, f3, f4, f5⟩ := flags_back o.deleting o.hold o.keep o.wait
  obtain ⟨t1, t2, t3, t4, t5, t6, t7⟩ := ht
  have ef : (UInt8.ofNat (flagsE o)).toNat = flagsE o := by unfold flagsE; simp; omega
  unfold fieldsD objE
  simp only [List.append_assoc]
  simp only [List.singleton_append, List.cons_append, List.nil_append, wd, byteD]
  rw [textD_textE _ (by omega) (by omega)]; simp only []
  rw [numD_0 _ (by omega)]; simp only []
  rw [numD_0 _ (by omega)]; simp only [flagsD]
  rw [ef, if_pos (by unfold flagsE; exact f1)]; simp only []
  rw [textD_textE _ (by omega) (by omega)]; simp only []
  iterate 2
   rw [sizeD_numE _ (by omega)]; simp only []
  iterate 5
   rw [textD_textE _ (by omega) (by omega)]; simp only []
  iterate 2
   rw [numD_0 _ (by omega)]; simp only []
  rw [u8_nat t1, u8_nat t4, u8_nat t5]
  simp only [flagsE, f2, f3, f4, f5]
  rw [Int.toNat_of_nonneg t2.1, Int.toNat_of_nonneg t3.1, Int.toNat_of_nonneg t6.1, Int.toNat_of_nonneg t7.1, Int.toNat_of_nonneg hs.1, Int.toNat_of_nonneg hg.1]

theorem wd_some {α β : Type} {x : Option (α × Bs)} {f : α → Bs → Option β} {b : β} : wd x f = some b ↔ ∃ a r, x = some (a, r) ∧ f a r = some b := by
  rcases x with _ | ⟨a, r⟩
  · simp [wd]
  · constructor
    · exact fun h => ⟨a, r, rfl, h⟩
    · rintro ⟨_, _, h1, h2⟩
      cases h1
      exact h2
theorem byteD_some {bs r : Bs} {c : UInt8} (h : byteD bs = some (c, r)) : bs = c :: r := by
  cases bs with
  | nil => cases h
  | cons a t => simp [byteD] at h; rw [h.1, h.2]
theorem flagsD_some {bs r : Bs} {f : Nat} (h : flagsD bs = some (f, r)) : f < 16 ∧ bs = UInt8.ofNat f :: r := by
  cases bs with
  | nil => cases h
  | cons a t =>
    simp only [flagsD] at h
    split at h
    · cases h; exact ⟨by assumption, by simp⟩
    · cases h
theorem u8_of (c : UInt8) : u8 ((c.toNat : Nat) : Int) = c := by simp [u8]
theorem u8_lt (c : UInt8) : 0 ≤ ((c.toNat : Nat) : Int) ∧ ((c.toNat : Nat) : Int) < 256 := by have := c.toNat_lt; omega

theorem fieldsD_some {L : Nat} {bs r : Bs} {o : Obj} (h : fieldsD L bs = some (o, r)) : bs = objE o ++ r ∧ o.Typed := by
  simp only [fieldsD, wd_some] at h
  obtain ⟨k, b1, e1, name, b2, e2, ver, b3, e3, born, b4, e4, f, b5, e5, cls, b6, e6, size, b7, e7, got, b8, e8, mode, b9, e9, zone, b10, e10, node, b11, e11, claim, b12, e12, volume, b13, e13, source, b14, e14, phase, b15, e15, num, b16, e16, tag, b17, e17, h⟩ := h
  simp only [Option.some.injEq, Prod.mk.injEq] at h
  obtain ⟨rfl, rfl⟩ := h
  have n3 := (numD_some _ _ _ _ e3).2.2.1; have n4 := (numD_some _ _ _ _ e4).2.2.1; have n16 := (numD_some _ _ _ _ e16).2.2.1; have n17 := (numD_some _ _ _ _ e17).2.2.1
  simp only [Nat.mul_zero, Nat.sub_zero] at n3 n4 n16 n17
  obtain ⟨hf, e5⟩ := flagsD_some e5
  have hb := flags_there f hf
  refine ⟨?_, ⟨u8_lt k, ⟨Int.natCast_nonneg _, by show (ver : Int) < 18446744073709551616; omega⟩, ⟨Int.natCast_nonneg _, by show (born : Int) < 18446744073709551616; omega⟩, u8_lt mode, u8_lt phase, ⟨Int.natCast_nonneg _, by show (num : Int) < 18446744073709551616; omega⟩, ⟨Int.natCast_nonneg _, by show (tag : Int) < 18446744073709551616; omega⟩⟩⟩
  rw [byteD_some e1, (textD_some e2).1, (numD_some _ _ _ _ e3).1, (numD_some _ _ _ _ e4).1, e5, (textD_some e6).1, (sizeD_some e7).1, (sizeD_some e8).1, byteD_some e9, (textD_some e10).1, (textD_some e11).1, (textD_some e12).1, (textD_some e13).1, (textD_some e14).1, byteD_some e15, (numD_some _ _ _ _ e16).1, (numD_some _ _ _ _ e17).1]
  simp only [objE, flagsE, hb, u8_of, Int.toNat_natCast, List.append_assoc, List.singleton_append, List.cons_append, List.nil_append]

theorem objD_some {L : Nat} {bs r : Bs} {o : Obj} (h : objD L bs = some (o, r)) : bs = objE o ++ r ∧ o.Typed ∧ rightB o = true := by
  simp only [objD, wd_some] at h
  obtain ⟨a, b, h1, h2⟩ := h
  split at h2
  · cases h2
    obtain ⟨h3, h4⟩ := fieldsD_some h1
    exact ⟨h3, h4, by assumption⟩
  · cases h2
theorem objD_objE {o : Obj} (L : Nat) (r : Bs) (ht : o.Typed) (h : rightB o = true) (hL : 40 ≤ L) : objD L (objE o ++ r) = some (o, r) := by
  simp only [objD, wd_some]
  exact ⟨o, r, fieldsD_objE L r ht h hL, by rw [if_pos h]⟩
theorem objD_any {L : Nat} (bs : Bs) (hL : 40 ≤ L) : objD L bs = objD 40 bs := by
  cases h : objD L bs with
  | some x =>
    obtain ⟨e, ht, hr⟩ := objD_some h
    rw [e, objD_objE 40 _ ht hr (Nat.le_refl _)]
  | none =>
    cases h' : objD 40 bs with
    | none => rfl
    | some x =>
      obtain ⟨e, ht, hr⟩ := objD_some h'
      rw [e, objD_objE L _ ht hr hL] at h
      cases h
theorem readD_objE {o : Obj} (ht : o.Typed) (h : rightB o = true) : readD (objE o) = some o := by
  have := objD_objE 40 [] ht h (Nat.le_refl _)
  rw [List.append_nil] at this
  simp [readD, wd, this]
theorem readD_some {bs : Bs} {o : Obj} (h : readD bs = some o) : bs = objE o ∧ o.Typed ∧ rightB o = true := by
  simp only [readD, wd_some] at h
  obtain ⟨a, b, h1, h2⟩ := h
  split at h2
  · cases h2
    obtain ⟨h3, h4, h5⟩ := objD_some h1
    rename_i hb
    rw [hb, List.append_nil] at h3
    exact ⟨h3, h4, h5⟩
  · cases h2
theorem objE_inj {a b : Obj} {r t : Bs} (ha : a.Typed) (hb : b.Typed) (ra : rightB a = true) (rb : rightB b = true) (h : objE a ++ r = objE b ++ t) : a = b ∧ r = t := by
  have h1 := objD_objE 40 r ha ra (Nat.le_refl _)
  rw [h, objD_objE 40 t hb rb (Nat.le_refl _)] at h1
  simp only [Option.some.injEq, Prod.mk.injEq] at h1
  exact ⟨h1.1.symm, h1.2.symm⟩
theorem readD_cut {o : Obj} {l x : Bs} (ht : o.Typed) (h : rightB o = true) (e : l ++ x = objE o) (hx : x ≠ []) : readD l = none := by
  cases h' : readD l with
  | none => rfl
  | some p =>
    obtain ⟨e1, tp, rp⟩ := readD_some h'
    rw [e1, ← List.append_nil (objE o)] at e
    exact absurd (objE_inj tp ht rp h e).2 hx
theorem readD_more {o : Obj} {x : Bs} (ht : o.Typed) (h : rightB o = true) (hx : x ≠ []) : readD (objE o ++ x) = none := by
  cases h' : readD (objE o ++ x) with
  | none => rfl
  | some p =>
    obtain ⟨e1, tp, rp⟩ := readD_some h'
    rw [← List.append_nil (objE p)] at e1
    exact absurd (objE_inj ht tp h rp e1).2 hx

/-- changes -/
structure Ev where
  version : Int
  gone : Bool
  obj : Obj
  deriving DecidableEq
structure Ev.Typed (e : Ev) : Prop where
  version : 0 ≤ e.version ∧ e.version < 18446744073709551616
  obj : e.obj.Typed
def chE (e : Ev) : Bs := numE e.version.toNat ++ ([UInt8.ofNat (bitE e.gone 1)] ++ objE e.obj)
def goneD (bs : Bs) : Option (Bool × Bs) :=
  match bs with
  | [] => none
  | c :: r => if c.toNat < 2 then some (c.toNat == 1, r) else none
def chD (L : Nat) (bs : Bs) : Option (Ev × Bs) := wd (numD 0 bs) fun v bs => wd (goneD bs) fun g bs => wd (objD L bs) fun o bs => some (⟨v, g, o⟩, bs)
def readC (bs : Bs) : Option Ev := wd (chD 40 bs) fun e bs => if bs = [] then some e else none
theorem goneD_some {bs r : Bs} {g : Bool} (h : goneD bs = some (g, r)) : bs = UInt8.ofNat (bitE g 1) :: r := by
  cases bs with
  | nil => cases h
  | cons c t =>
    simp only [goneD] at h
    split at h
    · rename_i hc
      cases h
      have : c.toNat = 0 ∨ c.toNat = 1 := by omega
      have e : c = UInt8.ofNat c.toNat := by simp
      rcases this with h0 | h0 <;> rw [e, h0] <;> rfl
    · cases h
theorem chD_some {L : Nat} {bs r : Bs} {e : Ev} (h : chD L bs = some (e, r)) : bs = chE e ++ r ∧ e.Typed ∧ rightB e.obj = true := by
  simp only [chD, wd_some] at h
  obtain ⟨v, b1, h1, g, b2, h2, o, b3, h3, h⟩ := h
  simp only [Option.some.injEq, Prod.mk.injEq] at h
  obtain ⟨rfl, rfl⟩ := h
  obtain ⟨e3, t3, r3⟩ := objD_some h3
  have n1 := (numD_some _ _ _ _ h1).2.2.1
  simp only [Nat.mul_zero, Nat.sub_zero] at n1
  refine ⟨?_, ⟨⟨Int.natCast_nonneg _, by simp only; omega⟩, t3⟩, r3⟩
  rw [(numD_some _ _ _ _ h1).1, goneD_some h2, e3]
  simp only [chE, Int.toNat_natCast, List.append_assoc, List.singleton_append, List.cons_append, List.nil_append]
theorem goneD_bit (g : Bool) (r : Bs) : goneD (UInt8.ofNat (bitE g 1) :: r) = some (g, r) := by cases g <;> rfl
theorem chD_chE {e : Ev} (L : Nat) (r : Bs) (ht : e.Typed) (h : rightB e.obj = true) (hL : 40 ≤ L) : chD L (chE e ++ r) = some (e, r) := by
  obtain ⟨t1, t2⟩ := ht
  simp only [chD, chE, List.append_assoc, List.singleton_append, List.cons_append, List.nil_append, wd]
  rw [numD_0 _ (by omega)]; simp only []
  rw [goneD_bit]; simp only []
  rw [objD_objE L r t2 h hL]; simp only []
  rw [Int.toNat_of_nonneg t1.1]
theorem chD_any {L : Nat} (bs : Bs) (hL : 40 ≤ L) : chD L bs = chD 40 bs := by
  simp only [chD]
  rcases numD 0 bs with _ | ⟨v, b⟩
  · rfl
  simp only [wd]
  rcases goneD b with _ | ⟨g, c⟩
  · rfl
  simp only [objD_any c hL]
theorem readC_chE {e : Ev} (ht : e.Typed) (h : rightB e.obj = true) : readC (chE e) = some e := by
  have := chD_chE 40 [] ht h (Nat.le_refl _)
  rw [List.append_nil] at this
  simp [readC, wd, this]
theorem readC_some {bs : Bs} {e : Ev} (h : readC bs = some e) : bs = chE e ∧ e.Typed ∧ rightB e.obj = true := by
  simp only [readC, wd_some] at h
  obtain ⟨a, b, h1, h2⟩ := h
  split at h2
  · cases h2
    obtain ⟨h3, h4, h5⟩ := chD_some h1
    rename_i hb
    rw [hb, List.append_nil] at h3
    exact ⟨h3, h4, h5⟩
  · cases h2
theorem chE_inj {a b : Ev} {r t : Bs} (ha : a.Typed) (hb : b.Typed) (ra : rightB a.obj = true) (rb : rightB b.obj = true) (h : chE a ++ r = chE b ++ t) : a = b ∧ r = t := by
  have h1 := chD_chE 40 r ha ra (Nat.le_refl _)
  rw [h, chD_chE 40 t hb rb (Nat.le_refl _)] at h1
  simp only [Option.some.injEq, Prod.mk.injEq] at h1
  exact ⟨h1.1.symm, h1.2.symm⟩
theorem readC_cut {o : Ev} {l x : Bs} (ht : o.Typed) (h : rightB o.obj = true) (e : l ++ x = chE o) (hx : x ≠ []) : readC l = none := by
  cases h' : readC l with
  | none => rfl
  | some p =>
    obtain ⟨e1, tp, rp⟩ := readC_some h'
    rw [e1, ← List.append_nil (chE o)] at e
    exact absurd (chE_inj tp ht rp h e).2 hx
theorem readC_more {o : Ev} {x : Bs} (ht : o.Typed) (h : rightB o.obj = true) (hx : x ≠ []) : readC (chE o ++ x) = none := by
  cases h' : readC (chE o ++ x) with
  | none => rfl
  | some p =>
    obtain ⟨e1, tp, rp⟩ := readC_some h'
    rw [← List.append_nil (chE p)] at e1
    exact absurd (chE_inj ht tp h rp e1).2 hx

/-- lengths -/
theorem numE_le (k : Nat) : ∀ n : Nat, n < 128 ^ (k + 1) → (numE n).length ≤ k + 1 := by
  induction k with
  | zero => intro n h; rw [numE_small (by simpa using h)]; simp
  | succ k ih =>
    intro n h
    by_cases hs : n < 128
    · rw [numE_small hs]; simp
    · rw [numE_great hs, List.length_cons]
      have := ih (n / 128) (by rw [Nat.div_lt_iff_lt_mul (by omega)]; rw [Nat.pow_succ] at h; omega)
      omega
theorem numE_pos (n : Nat) : 1 ≤ (numE n).length := by rw [numE]; split <;> simp
theorem numE_64 {n : Nat} (h : n < 18446744073709551616) : (numE n).length ≤ 10 := numE_le 9 n (by omega)
theorem textE_len {s : ByteArray} (h : s.size ≤ 40) : 1 + s.size ≤ (textE s).length ∧ (textE s).length ≤ 41 := by
  have h1 := numE_le 0 s.size (by omega)
  have h2 := numE_pos s.size
  unfold textE
  rw [List.length_append]
  have : s.data.toList.length = s.size := by simp
  omega
theorem objE_len {o : Obj} (ht : o.Typed) (h : rightB o = true) : 18 ≤ (objE o).length ∧ (objE o).length ≤ 400 := by
  obtain ⟨hn, hx⟩ := right_texts h
  have hp := right_named h
  obtain ⟨hs, hg⟩ := right_sizes h
  obtain ⟨t1, t2, t3, t4, t5, t6, t7⟩ := ht
  have x0 := textE_len hn
  have x1 := textE_len (hx o.cls (by simp [textsO])); have x2 := textE_len (hx o.zone (by simp [textsO])); have x3 := textE_len (hx o.node (by simp [textsO])); have x4 := textE_len (hx o.claim (by simp [textsO])); have x5 := textE_len (hx o.volume (by simp [textsO])); have x6 := textE_len (hx o.source (by simp [textsO]))
  have a1 := numE_64 (n := o.version.toNat) (by omega); have a2 := numE_64 (n := o.born.toNat) (by omega); have a3 := numE_64 (n := o.num.toNat) (by omega); have a4 := numE_64 (n := o.tag.toNat) (by omega); have a5 := numE_64 (n := o.size.toNat) (by omega); have a6 := numE_64 (n := o.got.toNat) (by omega)
  have b1 := numE_pos o.version.toNat; have b2 := numE_pos o.born.toNat; have b3 := numE_pos o.num.toNat; have b4 := numE_pos o.tag.toNat; have b5 := numE_pos o.size.toNat; have b6 := numE_pos o.got.toNat
  simp only [objE, List.length_append, List.length_cons, List.length_nil]
  omega
theorem chE_len {e : Ev} (ht : e.Typed) (h : rightB e.obj = true) : 20 ≤ (chE e).length ∧ (chE e).length ≤ 500 := by
  have h1 := objE_len ht.obj h
  have h2 := numE_64 (n := e.version.toNat) (by have := ht.version; omega)
  have h3 := numE_pos e.version.toNat
  simp only [chE, List.length_append, List.length_cons, List.length_nil]
  omega

end Go.Proofs.Ytobpohjhhelljaa
