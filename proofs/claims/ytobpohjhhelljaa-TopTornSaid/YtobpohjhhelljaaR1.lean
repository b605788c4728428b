/- Layer 4 (codec): the program's reader: texts, sizes, the end. -/
import Derived.Test.YtobpohjhhelljaaByt
import Derived.Laws.BitsAllLaws
namespace Go.Proofs.Ytobpohjhhelljaa
open Go.RowKit
set_option linter.unusedVariables false
set_option linter.unusedSimpArgs false


variable {B : Nat}
/-- reading was given up -/
def bad : List PanicEntry := [{ v := .iface 175 (.agg #[]), recovered := false }]

theorem must_ok (w : World) : Calls Try.prog 86 #[.bool true] w fun e w' => e = .returned (.tuple #[]) ∧ w' = w := by
  go_enter Try.func86, Try.ntmps86
  go_wp2
  exact bodyPost_end (results_none rfl _ _ _) rfl ⟨rfl, rfl⟩
theorem must_bad (w : World) : Calls Try.prog 86 #[.bool false] w fun e w' => e = .panicked bad ∧ w' = w := by
  go_enter Try.func86, Try.ntmps86
  go_wp2
  exact ⟨rfl, rfl, rfl⟩

def blk : Value → Option Nat
  | .slice (some a) _ _ => some a.block
  | _ => none
/-- bytes that lie below block B, or none at all -/
def SrcB (w : World) (B : Nat) (v : Value) (l : Bs) : Prop := (IsB w v l ∧ ∀ b, blk v = some b → b < B) ∨ (l = [] ∧ ∃ a c, v = .slice a 0 c ∧ c ≤ maxLen)
theorem SrcB.rd {w : World} {B : Nat} {v : Value} {l : Bs} (h : SrcB w B v l) : ∃ a c, v = .slice a l.length c := by
  rcases h with ⟨h, _⟩ | ⟨rfl, a, c, rfl, _⟩
  · obtain ⟨a, c, e, _⟩ := h.rd; exact ⟨a, c, e⟩
  · exact ⟨a, c, rfl⟩
/-- bytes that were taken -/
def Took (w : World) (v : Value) (l : Bs) : Prop := IsB w v l ∨ (l = [] ∧ ∃ a c, v = .slice a 0 c)
theorem run_text0 (w : World) (a : Option Addr) (c : Nat) : (convert 41 9 (.slice a 0 c)).run Try.prog w = .ok (.string ⟨#[]⟩) w := by
  rw [run_convert_bytes_string w 41 9 5 a 0 c und_B und_b und_str]
  cases a with
  | none => rfl
  | some a =>
    have := run_bytesToString (P := Try.prog) w a 0 c [] (by rfl)
    rw [this]; rfl
theorem Took.text {w : World} {v : Value} {l : Bs} (h : Took w v l) : (convert 41 9 v).run Try.prog w = .ok (.string ⟨l.toArray⟩) w := by
  rcases h with h | ⟨rfl, a, c, rfl⟩
  · exact run_text h
  · exact run_text0 w a c
/-- a reader at p, of which the bytes bs are left -/
structure RAt (w : World) (B p : Nat) (v : Value) (bs : Bs) : Prop where
  cells : w.heap[p]? = some (.cells #[v] 144 (0, 0))
  src : SrcB w B v bs
  le : B ≤ p
def RCur (w : World) (B p : Nat) (bs : Bs) : Prop := ∃ v, RAt w B p v bs
theorem IsB.keep {w w' : World} {v : Value} {l : Bs} (h : IsB w v l) (hk : ∀ b, blk v = some b → ∀ k, w'.cell? ⟨b, k, none⟩ = w.cell? ⟨b, k, none⟩) : IsB w' v l := by
  rcases h with h | ⟨b, o, c, rfl, h1, h2, h3⟩
  · exact .inl h
  · exact .inr ⟨b, o, c, rfl, h1, h2, fun k hx => (hk b rfl _).trans (h3 k hx)⟩
abbrev KeepP (p : Nat) (w w' : World) : Prop := Keeps (fun i => i = p) w w'

theorem KeepP.cell {p : Nat} {w w' : World} (h : KeepP p w w') {b k : Nat} (hb : b < w.heap.size) (hp : b ≠ p) : w'.cell? ⟨b, k, none⟩ = w.cell? ⟨b, k, none⟩ := World.cell?_of_block (a := ⟨b, k, none⟩) (h.block b hb hp)
theorem IsB.keepP {w w' : World} {p : Nat} {v : Value} {l : Bs} (h : IsB w v l) (hlo : ∀ b, blk v = some b → b < p) (hp : p < w.heap.size) (hk : KeepP p w w') : IsB w' v l :=
  h.keep fun b e k => hk.cell (Nat.lt_trans (hlo b e) hp) (Nat.ne_of_lt (hlo b e))
theorem keepP_set (w : World) (p : Nat) (v : Value) : KeepP p w (w.setCell ⟨p, 0, none⟩ v) := Keeps.setCell (F := fun i => i = p) (Keeps.refl _ _) (fun _ => rfl) v
theorem SrcB.keepP {w w' : World} {p : Nat} {v : Value} {l : Bs} (h : SrcB w B v l) (hB : B ≤ p) (hp : p < w.heap.size) (hk : KeepP p w w') : SrcB w' B v l := by
  rcases h with ⟨h, hlo⟩ | h
  · exact .inl ⟨h.keepP (fun b e => Nat.lt_of_lt_of_le (hlo b e) hB) hp hk, hlo⟩
  · exact .inr h
theorem RAt.set {w : World} {p : Nat} {v v' : Value} {bs bs' : Bs} (h : RAt w B p v bs) (hs : SrcB w B v' bs') : RCur (w.setCell ⟨p, 0, none⟩ v') B p bs' :=
  ⟨v', by rw [heap_setCell_same h.cells]; rfl, hs.keepP h.le (heap_lt h.cells) (keepP_set _ _ _), h.le⟩
theorem IsB.nil (w : World) (b o c : Nat) (hc : c ≤ maxLen) : IsB w (.slice (some ⟨b, o, none⟩) 0 c) [] := .inr ⟨b, o, c, rfl, Nat.zero_le _, hc, fun k hk => absurd hk (by simp)⟩

set_option maxHeartbeats 1000000 in
theorem take_ok (n : Nat) (w : World) (p : Nat) (bs : Bs) (h : RCur w B p bs) (hn : n ≤ bs.length) :
    Calls Try.prog 123 #[.pointer (some ⟨p, 0, none⟩), .int .i64 (n : Int)] w fun e w' => ∃ v, e = .returned v ∧ Took w' v (bs.take n) ∧ RCur w' B p (bs.drop n) ∧ KeepP p w w' := by
  obtain ⟨v, h⟩ := h
  have H := Lib.hid h
  obtain ⟨c0, f0⟩ := cells_of_block h.cells 0 v rfl
  have hp := heap_lt h.cells
  rcases h.src with ⟨⟨rfl, rfl⟩ | ⟨b, o, c, rfl, h1, h2, h3⟩, hlo0⟩ | ⟨rfl, a, c, rfl, hcm⟩
  · obtain rfl : n = 0 := by simpa using hn
    clear h hlo0
    go_enter Try.func123, Try.ntmps123
    go_wp2_with (go_at_call 86; refine (must_ok _).mono ?_; rintro e w2 ⟨rfl, rfl⟩)
    go_ret
    exact ⟨_, rfl, .inl (.inl ⟨rfl, rfl⟩), H.out.set (.inr ⟨rfl, _, _, rfl, Nat.zero_le _⟩), keepP_set _ _ _⟩
  · have H3 := Lib.hid h3
    have hloB : b < B := hlo0 b rfl
    have hlo : b < p := Nat.lt_of_lt_of_le hloB h.le
    clear h h3 hlo0
    have e0 : decide ((n : Int) ≤ (bs.length : Int)) = true := by simp; omega
    have etl : (bs.take n).length = n := by simp; omega
    have edl : (bs.drop n).length = bs.length - n := by simp
    have HT : ∀ c', n ≤ c' → c' ≤ maxLen → IsB w (.slice (some ⟨b, o, none⟩) n c') (bs.take n) := fun c' hc hm => .inr ⟨b, o, c', by rw [etl], by omega, hm, fun k hk => by rw [List.getElem_take]; exact H3.out k (by omega)⟩
    have HT := Lib.hid HT
    have HD : ∀ c', bs.length - n ≤ c' → c' ≤ maxLen → IsB w (.slice (some ⟨b, o + n, none⟩) (bs.length - n) c') (bs.drop n) := fun c' hc hm => .inr ⟨b, o + n, c', by rw [edl], by omega, hm, fun k hk => by rw [List.getElem_drop, Nat.add_assoc]; exact H3.out (n + k) (by omega)⟩
    have HD := Lib.hid HD
    go_enter Try.func123, Try.ntmps123
    go_wp2_with (go_at_call 86; refine (must_ok _).mono ?_; rintro e w2 ⟨rfl, rfl⟩)
    · subst h
      have e1 : bs.length = c := by omega
      have e2 : bs.drop c = [] := by rw [← e1]; simp
      go_ret
      refine ⟨_, rfl, .inl ((HT.out c (by omega) h2).keepP (fun b' e => by cases e; exact hlo) hp (keepP_set _ _ _)), ?_, keepP_set _ _ _⟩
      rw [e2, e1, Nat.sub_self]
      exact H.out.set (.inl ⟨IsB.nil _ _ _ _ (Nat.zero_le _), fun b' e => by cases e; exact hloB⟩)
    · go_ret
      exact ⟨_, rfl, .inl ((HT.out c (by omega) h2).keepP (fun b' e => by cases e; exact hlo) hp (keepP_set _ _ _)), H.out.set (.inl ⟨HD.out (c - n) (by omega) (by omega), fun b' e => by cases e; exact hloB⟩), keepP_set _ _ _⟩
  · obtain rfl : n = 0 := by simpa using hn
    clear h
    have HS : ∀ a' c', c' ≤ maxLen → SrcB w B (.slice a' 0 c') [] := fun a' c' h => .inr ⟨rfl, a', c', rfl, h⟩
    have HS := Lib.hid HS
    go_enter Try.func123, Try.ntmps123
    go_wp2_with (go_at_call 86; refine (must_ok _).mono ?_; rintro e w2 ⟨rfl, rfl⟩)
    all_goals go_ret
    all_goals exact ⟨_, rfl, .inr ⟨rfl, _, _, rfl⟩, H.out.set (HS.out _ _ (by omega)), keepP_set _ _ _⟩
theorem take_no (n : Nat) (w : World) (p : Nat) (bs : Bs) (h : RCur w B p bs) (hn : bs.length < n) :
    Calls Try.prog 123 #[.pointer (some ⟨p, 0, none⟩), .int .i64 (n : Int)] w fun e w' => e = .panicked bad ∧ w' = w := by
  obtain ⟨v, h⟩ := h
  obtain ⟨c0, f0⟩ := cells_of_block h.cells 0 v rfl
  obtain ⟨a, c, rfl⟩ := h.src.rd
  clear h
  have e0 : decide ((n : Int) ≤ (bs.length : Int)) = false := by simp; omega
  have e1 : decide (n ≤ bs.length) = false := by simp; omega
  go_enter Try.func123, Try.ntmps123
  go_wp2_with (go_at_call 86; refine (must_bad _).mono ?_; rintro e w2 ⟨rfl, rfl⟩)
  exact ⟨rfl, rfl, rfl⟩

/-- what a reader's call does: as d says -/
def Rd {α : Type} (w : World) (B p : Nat) (val : α → Value) (d : Option (α × Bs)) (e : Ending) (w' : World) : Prop :=
  match d with
  | some (x, r) => e = .returned (val x) ∧ RCur w' B p r ∧ KeepP p w w'
  | none => e = .panicked bad ∧ KeepP p w w'

theorem isB_one {w : World} {v : Value} {c : UInt8} {r : Bs} (h : Took w v ((c :: r).take 1)) : ∃ b o c1, v = .slice (some ⟨b, o, none⟩) 1 c1 ∧ w.cell? ⟨b, o, none⟩ = some (.int .u8 (c.toNat : Int)) := by
  rcases h with (⟨_, h0⟩ | ⟨b, o, c1, rfl, h1, h2, h3⟩) | ⟨h0, _⟩
  · simp at h0
  · exact ⟨b, o, c1, by simp, by simpa using h3 0 (by simp)⟩
  · simp at h0

set_option maxHeartbeats 1000000 in
theorem rdbyte_any (w : World) (p : Nat) (bs : Bs) (h : RCur w B p bs) : Calls Try.prog 85 #[.pointer (some ⟨p, 0, none⟩)] w fun e w' => Rd w B p (fun c : UInt8 => .int .u8 (c.toNat : Int)) (byteD bs) e w' := by
  have H := Lib.hid h
  cases bs with
  | nil =>
    go_enter Try.func85, Try.ntmps85
    go_wp2_with (go_at_call 123; refine (take_no 1 _ p [] H.out (by simp)).mono ?_; rintro e w2 ⟨rfl, rfl⟩)
    exact ⟨rfl, rfl, Keeps.refl _ _⟩
  | cons c r =>
    go_enter Try.func85, Try.ntmps85
    go_wp2_with (go_at_call 123; refine (take_ok 1 _ p (c :: r) H.out (by simp)).mono ?_; rintro e w2 ⟨v, rfl, hrow, hc, hk⟩; have HC := Lib.hid hc; have HK := Lib.hid hk; obtain ⟨b, o, c1, rfl, hc0⟩ := isB_one hrow; clear hc hk hrow)
    go_ret
    exact ⟨rfl, HC.out, HK.out⟩

/-- one byte is left, or not -/
theorem Rd.yes {α : Type} {w w' : World} {p : Nat} {val : α → Value} {d : Option (α × Bs)} {x : α} {r : Bs} {e : Ending} (h : Rd w B p val d e w') (hd : d = some (x, r)) : e = .returned (val x) ∧ RCur w' B p r ∧ KeepP p w w' := by subst hd; exact h
theorem Rd.no {α : Type} {w w' : World} {p : Nat} {val : α → Value} {d : Option (α × Bs)} {e : Ending} (h : Rd w B p val d e w') (hd : d = none) : e = .panicked bad ∧ KeepP p w w' := by subst hd; exact h
theorem Rd.mkYes {α : Type} {w w' : World} {p : Nat} {val : α → Value} {d : Option (α × Bs)} {x : α} {r : Bs} {e : Ending} (hd : d = some (x, r)) (h : e = .returned (val x) ∧ RCur w' B p r ∧ KeepP p w w') : Rd w B p val d e w' := by subst hd; exact h
theorem Rd.mkNo {α : Type} {w w' : World} {p : Nat} {val : α → Value} {d : Option (α × Bs)} {e : Ending} (hd : d = none) (h : e = .panicked bad ∧ KeepP p w w') : Rd w B p val d e w' := by subst hd; exact h



variable {B : Nat}
theorem rdbyte_some {w : World} {p : Nat} {c : UInt8} {r : Bs} (h : RCur w B p (c :: r)) {C : Nat} (hC : c.toNat = C) : Calls Try.prog 85 #[.pointer (some ⟨p, 0, none⟩)] w fun e w' => e = .returned (.int .u8 (C : Int)) ∧ RCur w' B p r ∧ KeepP p w w' := by
  subst hC
  exact (rdbyte_any w p _ h).mono fun _ _ h => h.yes rfl
theorem rdbyte_none {w : World} {p : Nat} (h : RCur w B p []) : Calls Try.prog 85 #[.pointer (some ⟨p, 0, none⟩)] w fun e w' => e = .panicked bad ∧ KeepP p w w' :=
  (rdbyte_any w p _ h).mono fun _ _ h => h.no rfl

theorem pow7_le {i : Nat} (h : i ≤ 8) : 2 ^ (7 * i) * 128 ≤ 9223372036854775808 := by
  have : 2 ^ (7 * i) ≤ 2 ^ 56 := Nat.pow_le_pow_right (by omega) (by omega)
  omega
theorem vlt {acc c S i : Nat} (hS : S = 7 * i) (hi : i ≤ 9) (hacc : acc < 2 ^ S) (hc : c < 256) (h9 : i = 9 → c ≤ 1) : c % 128 * 2 ^ S < 18446744073709551616 ∧ acc < 18446744073709551616 := by
  subst hS
  by_cases h : i ≤ 8
  · have h1 := pow7_le h
    have h2 : c % 128 * 2 ^ (7 * i) ≤ 127 * 2 ^ (7 * i) := Nat.mul_le_mul_right _ (by omega)
    omega
  · obtain rfl : i = 9 := by omega
    have := h9 rfl
    have h2 : c % 128 * 2 ^ (7 * 9) ≤ 1 * 2 ^ (7 * 9) := Nat.mul_le_mul_right _ (by omega)
    omega
theorem vstep {acc c S i : Nat} (hS : S = 7 * i) (hi : i ≤ 9) (hacc : acc < 2 ^ S) (hc : c < 256) (h9 : i = 9 → c ≤ 1) :
    bits .or .u64 (acc : Int) (IntKind.u64.wrap (IntKind.u64.wrap (bits .and .u8 (c : Int) 127) * 2 ^ min S 64)) = ((acc + 2 ^ S * (c % 128) : Nat) : Int) := by
  obtain ⟨h1, h2⟩ := vlt hS hi hacc hc h9
  have e1 : bits .and .u8 (c : Int) 127 = ((c % 128 : Nat) : Int) := by
    have := u8_and_nat c 127 hc (by omega)
    rw [nat_mask7] at this
    exact this
  have e2 : min S 64 = S := by omega
  have e3 : IntKind.u64.wrap (((c % 128 : Nat) : Int)) = ((c % 128 : Nat) : Int) := by rw [IntKind.wrap_u64]; omega
  have e4 : (((c % 128 : Nat) : Int)) * 2 ^ S = ((c % 128 * 2 ^ S : Nat) : Int) := by rw [Int.natCast_mul, Int.natCast_pow]; rfl
  rw [e1, e2, e3, e4, IntKind.wrap_u64]
  have e5 : ((c % 128 * 2 ^ S : Nat) : Int) % 18446744073709551616 = ((c % 128 * 2 ^ S : Nat) : Int) := by omega
  rw [e5, u64_or_nat _ _ h2 h1, Nat.or_comm, nat_join S _ _ (by rw [Nat.mul_mod_left]) hacc]
  congr 1
  rw [Nat.mul_comm, Nat.add_comm]

theorem numD_hi {i : Nat} {c : UInt8} {r : Bs} (hi : i < 9) (hc : 128 ≤ c.toNat) : numD i (c :: r) = (numD (i + 1) r).map fun x => (c.toNat % 128 + 128 * x.1, x.2) := by
  rw [numD, if_neg (by omega), if_neg (by omega), if_neg (by omega)]
  cases numD (i + 1) r <;> rfl
theorem numD_lo {i : Nat} {c : UInt8} {r : Bs} (hi : i ≤ 9) (h9 : i = 9 → c.toNat ≤ 1) (hc : c.toNat < 128) (h0 : ¬ (c.toNat = 0 ∧ 0 < i)) : numD i (c :: r) = some (c.toNat, r) := by
  rw [numD, if_neg (by omega), if_neg (by omega), if_pos hc, if_neg h0]
theorem numD_no {i : Nat} {c : UInt8} {r : Bs} (hi : i ≤ 9) (h : (i = 9 ∧ 1 < c.toNat) ∨ (c.toNat = 0 ∧ 0 < i)) : numD i (c :: r) = none := by
  rw [numD, if_neg (by omega)]
  split
  · rfl
  · rw [if_pos (by omega), if_pos (by omega)]

theorem vstep' {acc c S i : Nat} (hS : S = 7 * i) (hi : i ≤ 9) (hacc : acc < 2 ^ S) (hc : c < 256) (h9 : i = 9 → c ≤ 1) :
    bits .or .u64 (acc : Int) (IntKind.u64.wrap (IntKind.u64.wrap (bits .and .u8 (c : Int) 127) * 2 ^ S)) = ((acc + 2 ^ S * (c % 128) : Nat) : Int) := by
  have := vstep hS hi hacc hc h9
  rwa [show min S 64 = S by omega] at this
theorem D_lo {acc C S i : Nat} {bs r : Bs} {c : UInt8} (hD : numD 0 bs = (numD i (c :: r)).map fun x => (acc + 2 ^ (7 * i) * x.1, x.2)) (hS : S = 7 * i) (hC : c.toNat = C) (hi : i ≤ 9) (h9 : i = 9 → C ≤ 1) (hc : C < 128) (h0 : ¬ (C = 0 ∧ 0 < i)) :
    numD 0 bs = some (acc + 2 ^ S * (C % 128), r) := by
  subst hC; subst hS
  rw [hD, numD_lo hi h9 hc h0, Nat.mod_eq_of_lt hc]; rfl
theorem D_no {acc C S i : Nat} {bs r : Bs} {c : UInt8} (hD : numD 0 bs = (numD i (c :: r)).map fun x => (acc + 2 ^ (7 * i) * x.1, x.2)) (hS : S = 7 * i) (hC : c.toNat = C) (hi : i ≤ 9) (h : (i = 9 ∧ 1 < C) ∨ (C = 0 ∧ 0 < i)) :
    numD 0 bs = none := by
  subst hC; subst hS
  rw [hD, numD_no hi h]; rfl
theorem D_hi {acc C S i : Nat} {bs r : Bs} {c : UInt8} (hD : numD 0 bs = (numD i (c :: r)).map fun x => (acc + 2 ^ (7 * i) * x.1, x.2)) (hS : S = 7 * i) (hC : c.toNat = C) (hi : i < 9) (hc : 128 ≤ C) :
    numD 0 bs = (numD (i + 1) r).map fun x => (acc + 2 ^ S * (C % 128) + 2 ^ (7 * (i + 1)) * x.1, x.2) := by
  subst hC; subst hS
  rw [hD, numD_hi hi hc, Option.map_map]
  congr 1
  funext x
  simp only [Function.comp, Prod.mk.injEq, and_true]
  rw [show 7 * (i + 1) = 7 * i + 7 by omega, Nat.pow_add, Nat.mul_add, Nat.mul_assoc, Nat.add_assoc]
theorem wrap7 (S i : Nat) (hS : S = 7 * i) (hi : i < 9) : wrap64 ((S : Int) + 7) = ((S + 7 : Nat) : Int) := by unfold wrap64; omega
theorem acc_hi {acc C S i : Nat} (hS : S = 7 * i) (hacc : acc < 2 ^ S) : acc + 2 ^ S * (C % 128) < 2 ^ (7 * (i + 1)) := by
  subst hS
  rw [show 7 * (i + 1) = 7 * i + 7 by omega, Nat.pow_add]
  have h1 : 2 ^ (7 * i) * (C % 128) ≤ 2 ^ (7 * i) * 127 := Nat.mul_le_mul_left _ (by omega)
  omega

set_option maxRecDepth 100000 in
set_option maxHeartbeats 2000000 in
theorem rdnum_any (w : World) (p : Nat) (bs : Bs) (h : RCur w B p bs) : Calls Try.prog 84 #[.pointer (some ⟨p, 0, none⟩)] w fun e w' => Rd w B p (fun n : Nat => .int .u64 (n : Int)) (numD 0 bs) e w' := by
  have H := Lib.hid h
  clear h
  go_enter Try.func84, Try.ntmps84
  go_wp2
  go_loopw [2, 3] (fun s2 s3 wr => ∃ (i acc S : Nat) (cur : Bs), s2 = .int .u64 (acc : Int) ∧ s3 = .int .i64 (S : Int) ∧ Hid (S = 7 * i) ∧ i ≤ 9 ∧ Hid (acc < 2 ^ (7 * i)) ∧ Hid (RCur wr B p cur) ∧ Hid (KeepP p w wr) ∧
      Hid (numD 0 bs = (numD i cur).map fun x => (acc + 2 ^ (7 * i) * x.1, x.2))) (fun _ s3 _ => 63 - (intOf s3).toNat)
  case atStart => exact ⟨0, 0, 0, bs, rfl, rfl, Lib.hid (by simp), by omega, Lib.hid (by simp), H, Lib.hid (Keeps.refl _ _), Lib.hid (by cases numD 0 bs <;> simp)⟩
  case round =>
    obtain ⟨i, acc, S, cur, rfl, rfl, hS, hi, hacc, HR, HK, hD⟩ := hrel
    cases cur with
    | nil =>
      go_wp2_with (go_at_call 85; refine (rdbyte_none HR.out).mono ?_; rintro e w2 ⟨rfl, hk⟩)
      exact ⟨rfl, Rd.mkNo (by rw [hD.out]; rfl) ⟨rfl, HK.out.trans hk⟩⟩
    | cons c r =>
      have hc8 := c.toNat_lt
      obtain ⟨C, hC⟩ : ∃ C, c.toNat = C := ⟨_, rfl⟩
      have HCe := Lib.hid hC
      clear hC
      rw [HCe.out] at hc8
      have hSS := hS.out
      have ha := hacc.out
      rw [← hSS] at ha
      have HA := Lib.hid ha
      clear ha
      by_cases hok : i < 9 ∨ C ≤ 1
      · have HF9 := Lib.hid (show i = 9 → C ≤ 1 by omega)
        have HV := Lib.hid (vstep hS.out hi HA.out hc8 HF9.out)
        have HV' := Lib.hid (vstep' hS.out hi HA.out hc8 HF9.out)
        have hm : ∃ b1 b2 b3 : Bool, (decide (S < 63) = b1 ∧ decide ((S : Int) < 63) = b1) ∧ (((S : Int) == 63) = b2 ∧ (decide ((C : Int) ≤ 1) = b3 ∧ decide (C ≤ 1) = b3)) ∧ (b1 = true ∨ (b1 = false ∧ b2 = true ∧ b3 = true)) := by
          refine ⟨_, _, _, ⟨rfl, ?_⟩, ⟨rfl, rfl, ?_⟩, ?_⟩
          iterate 2
           · simp only [decide_eq_decide]; constructor <;> intro h <;> omega
          · by_cases h : i < 9
            · left; simp; omega
            · right; refine ⟨?_, ?_, ?_⟩ <;> simp <;> omega
        obtain ⟨b1, b2, b3, ⟨d1, d1i⟩, ⟨d2, d3, d3n⟩, hb⟩ := hm
        by_cases hc : C < 128
        · have d4 : decide ((C : Int) < 128) = true := by simp; omega
          have d4n : decide (C < 128) = true := by simp; omega
          by_cases h0 : C = 0
          · have d5 : ((C : Int) != 0) = false := by simp; omega
            by_cases hz : i = 0
            · have d6 : ((S : Int) == 0) = true := by simp; omega
              have HF := Lib.hid (show C < 128 ∧ ¬ (C = 0 ∧ 0 < i) by omega)
              clear hc h0 hz hok hSS
              rcases hb with rfl | ⟨rfl, rfl, rfl⟩
              iterate 2
               · go_wp2_with (first
                   | (go_at_call 85; refine (rdbyte_some HR.out HCe.out).mono ?_; rintro e w2 ⟨rfl, hc, hk⟩; have HC := Lib.hid hc; have HK2 := Lib.hid (HK.out.trans hk); clear hc hk)
                   | (go_at_call 86; refine (must_ok _).mono ?_; rintro e w3 ⟨rfl, hw⟩; have hw' := hw.symm; subst hw'; clear hw)
                   | (go_at_call 86; refine (must_bad _).mono ?_; rintro e w3 ⟨rfl, hw⟩; have hw' := hw.symm; subst hw'; clear hw))
                 go_ret
                 exact Rd.mkYes (D_lo hD.out hS.out HCe.out hi HF9.out HF.out.1 HF.out.2) ⟨by first | (rw [HV.out]; rfl) | (rw [HV'.out]; rfl), HC.out, HK2.out⟩
            · have d6 : ((S : Int) == 0) = false := by simp; omega
              have HF := Lib.hid (show (i = 9 ∧ 1 < C) ∨ (C = 0 ∧ 0 < i) by omega)
              clear hc h0 hz hok hSS
              rcases hb with rfl | ⟨rfl, rfl, rfl⟩
              iterate 2
               · go_wp2_with (first
                   | (go_at_call 85; refine (rdbyte_some HR.out HCe.out).mono ?_; rintro e w2 ⟨rfl, hc, hk⟩; have HC := Lib.hid hc; have HK2 := Lib.hid (HK.out.trans hk); clear hc hk)
                   | (go_at_call 86; refine (must_ok _).mono ?_; rintro e w3 ⟨rfl, hw⟩; have hw' := hw.symm; subst hw'; clear hw)
                   | (go_at_call 86; refine (must_bad _).mono ?_; rintro e w3 ⟨rfl, hw⟩; have hw' := hw.symm; subst hw'; clear hw))
                 exact ⟨rfl, Rd.mkNo (D_no hD.out hS.out HCe.out hi HF.out) ⟨rfl, HK2.out⟩⟩
          · have d5 : ((C : Int) != 0) = true := by simp; omega
            have HF := Lib.hid (show C < 128 ∧ ¬ (C = 0 ∧ 0 < i) by omega)
            clear hc h0 hok hSS
            rcases hb with rfl | ⟨rfl, rfl, rfl⟩
            iterate 2
             · go_wp2_with (first
                 | (go_at_call 85; refine (rdbyte_some HR.out HCe.out).mono ?_; rintro e w2 ⟨rfl, hc, hk⟩; have HC := Lib.hid hc; have HK2 := Lib.hid (HK.out.trans hk); clear hc hk)
                 | (go_at_call 86; refine (must_ok _).mono ?_; rintro e w3 ⟨rfl, hw⟩; have hw' := hw.symm; subst hw'; clear hw)
                 | (go_at_call 86; refine (must_bad _).mono ?_; rintro e w3 ⟨rfl, hw⟩; have hw' := hw.symm; subst hw'; clear hw))
               go_ret
               exact Rd.mkYes (D_lo hD.out hS.out HCe.out hi HF9.out HF.out.1 HF.out.2) ⟨by first | (rw [HV.out]; rfl) | (rw [HV'.out]; rfl), HC.out, HK2.out⟩
        · have d4 : decide ((C : Int) < 128) = false := by simp; omega
          have d4n : decide (C < 128) = false := by simp; omega
          have h9 : i < 9 := by omega
          have hb1 : b1 = true := by rw [← d1]; simp; omega
          subst hb1
          have HF := Lib.hid (And.intro h9 (show 128 ≤ C by omega))
          clear hc hok hSS hb h9
          go_wp2_with (first
            | (go_at_call 85; refine (rdbyte_some HR.out HCe.out).mono ?_; rintro e w2 ⟨rfl, hc, hk⟩; have HC := Lib.hid hc; have HK2 := Lib.hid (HK.out.trans hk); clear hc hk)
            | (go_at_call 86; refine (must_ok _).mono ?_; rintro e w3 ⟨rfl, hw⟩; have hw' := hw.symm; subst hw'; clear hw)
            | (go_at_call 86; refine (must_bad _).mono ?_; rintro e w3 ⟨rfl, hw⟩; have hw' := hw.symm; subst hw'; clear hw))
          have HW7 := Lib.hid (wrap7 S i hS.out HF.out.1)
          go_roundw
          case rel => exact ⟨i + 1, acc + 2 ^ S * (C % 128), S + 7, r, by first | rw [HV.out] | rw [HV'.out], by rw [HW7.out], Lib.hid (by have := hS.out; omega), by have := HF.out.1; omega, Lib.hid (acc_hi hS.out HA.out), HC, HK2, Lib.hid (D_hi hD.out hS.out HCe.out HF.out.1 HF.out.2)⟩
          case measure => have := hS.out; have := HF.out.1; rw [HW7.out]; simp [intOf]; omega
      · have d1 : decide (S < 63) = false := by simp; omega
        have d1i : decide ((S : Int) < 63) = false := by simp; omega
        have d2 : ((S : Int) == 63) = true := by simp; omega
        have d3 : decide ((C : Int) ≤ 1) = false := by simp; omega
        have d3n : decide (C ≤ 1) = false := by simp; omega
        have HF := Lib.hid (show (i = 9 ∧ 1 < C) ∨ (C = 0 ∧ 0 < i) by omega)
        clear hok hSS
        go_wp2_with (first
          | (go_at_call 85; refine (rdbyte_some HR.out HCe.out).mono ?_; rintro e w2 ⟨rfl, hc, hk⟩; have HC := Lib.hid hc; have HK2 := Lib.hid (HK.out.trans hk); clear hc hk)
          | (go_at_call 86; refine (must_ok _).mono ?_; rintro e w3 ⟨rfl, hw⟩; have hw' := hw.symm; subst hw'; clear hw)
          | (go_at_call 86; refine (must_bad _).mono ?_; rintro e w3 ⟨rfl, hw⟩; have hw' := hw.symm; subst hw'; clear hw))
        exact ⟨rfl, Rd.mkNo (D_no hD.out hS.out HCe.out hi HF.out) ⟨rfl, HK2.out⟩⟩



variable {B : Nat}
theorem must_any (b : Bool) (w : World) : Calls Try.prog 86 #[.bool b] w fun e w' => w' = w ∧ (b = true → e = .returned (.tuple #[])) ∧ (b = false → e = .panicked bad) := by
  cases b
  · exact (must_bad w).mono fun e w' h => ⟨h.2, fun hx => absurd hx (by simp), fun _ => h.1⟩
  · exact (must_ok w).mono fun e w' h => ⟨h.2, fun _ => h.1, fun hx => absurd hx (by simp)⟩

theorem textD_of {L : Nat} {bs : Bs} {n : Nat} {r : Bs} (h : numD 0 bs = some (n, r)) (hn : n ≤ L) (hr : n ≤ r.length) : textD L bs = some (textOf (r.take n), r.drop n) := by
  unfold textD; rw [h]; simp [hn, hr]
theorem textD_no {L : Nat} {bs : Bs} {n : Nat} {r : Bs} (h : numD 0 bs = some (n, r)) (hn : ¬ (n ≤ L ∧ n ≤ r.length)) : textD L bs = none := by
  unfold textD; rw [h]; simp only [if_neg hn]
theorem textD_num {L : Nat} {bs : Bs} (h : numD 0 bs = none) : textD L bs = none := by unfold textD; rw [h]

set_option maxHeartbeats 1000000 in
theorem rdtext_any (w : World) (p : Nat) (bs : Bs) (h : RCur w B p bs) : Calls Try.prog 124 #[.pointer (some ⟨p, 0, none⟩)] w fun e w' => Rd w B p (fun s : ByteArray => .string s) (textD 40 bs) e w' := by
  have H := Lib.hid h
  clear h
  cases hd : numD 0 bs with
  | none =>
    have HD := Lib.hid hd
    clear hd
    go_enter Try.func124, Try.ntmps124
    go_wp2_with (go_at_call 84; refine (rdnum_any _ p _ H.out).mono ?_; intro e w2 hx; obtain ⟨rfl, hk⟩ := hx.no HD.out)
    exact ⟨rfl, Rd.mkNo (textD_num HD.out) ⟨rfl, hk⟩⟩
  | some x =>
    obtain ⟨n, r⟩ := x
    have HD := Lib.hid hd
    clear hd
    by_cases h1 : n ≤ 40
    · have d1 : decide ((n : Int) ≤ 40) = true := by simp; omega
      have d1n : decide (n ≤ 40) = true := by simp; omega
      have H1 := Lib.hid h1
      have hwr : wrap64 (n : Int) = n := by unfold wrap64; omega
      clear h1
      by_cases h2 : n ≤ r.length
      · go_enter Try.func124, Try.ntmps124
        go_wp2_with (first
          | (go_at_call 84; refine (rdnum_any _ p _ H.out).mono ?_; intro e w2 hx; obtain ⟨rfl, hc, hk⟩ := hx.yes HD.out; have HC := Lib.hid hc; have HK := Lib.hid hk; clear hx hc hk)
          | (go_at_call 86; refine (must_ok _).mono ?_; rintro e w3 ⟨rfl, hw⟩; have hw' := hw.symm; subst hw'; clear hw)
          | (go_at_call 123; refine (take_ok n _ p r HC.out h2).mono ?_; rintro e w3 ⟨v, rfl, hrow, hc, hk⟩; have hcv := hrow.text; have HC3 := Lib.hid hc; have HK3 := Lib.hid (HK.out.trans hk); clear hc hk hrow))
        go_ret
        exact Rd.mkYes (textD_of HD.out H1.out h2) ⟨rfl, HC3.out, HK3.out⟩
      · go_enter Try.func124, Try.ntmps124
        go_wp2_with (first
          | (go_at_call 84; refine (rdnum_any _ p _ H.out).mono ?_; intro e w2 hx; obtain ⟨rfl, hc, hk⟩ := hx.yes HD.out; have HC := Lib.hid hc; have HK := Lib.hid hk; clear hx hc hk)
          | (go_at_call 86; refine (must_ok _).mono ?_; rintro e w3 ⟨rfl, hw⟩; have hw' := hw.symm; subst hw'; clear hw)
          | (go_at_call 123; refine (take_no n _ p r HC.out (by omega)).mono ?_; rintro e w3 ⟨rfl, hw⟩; have hw' := hw.symm; subst hw'; clear hw))
        exact ⟨rfl, Rd.mkNo (textD_no HD.out (fun h => h2 h.2)) ⟨rfl, HK.out⟩⟩
    · have d1 : decide ((n : Int) ≤ 40) = false := by simp; omega
      have d1n : decide (n ≤ 40) = false := by simp; omega
      have H1 := Lib.hid h1
      clear h1
      go_enter Try.func124, Try.ntmps124
      go_wp2_with (first
        | (go_at_call 84; refine (rdnum_any _ p _ H.out).mono ?_; intro e w2 hx; obtain ⟨rfl, hc, hk⟩ := hx.yes HD.out; have HC := Lib.hid hc; have HK := Lib.hid hk; clear hx hc hk)
        | (go_at_call 86; refine (must_bad _).mono ?_; rintro e w3 ⟨rfl, hw⟩; have hw' := hw.symm; subst hw'; clear hw))
      exact ⟨rfl, Rd.mkNo (textD_no HD.out (fun h => H1.out h.1)) ⟨rfl, HK.out⟩⟩

theorem sizeD_of {bs : Bs} {n : Nat} {r : Bs} (h : numD 0 bs = some (n, r)) (hn : n ≤ 1125899906842624) : sizeD bs = some (n, r) := by
  unfold sizeD; rw [h]; simp [hn]
theorem sizeD_no {bs : Bs} {n : Nat} {r : Bs} (h : numD 0 bs = some (n, r)) (hn : ¬ n ≤ 1125899906842624) : sizeD bs = none := by
  unfold sizeD; rw [h]; simp only [if_neg hn]
theorem sizeD_num {bs : Bs} (h : numD 0 bs = none) : sizeD bs = none := by unfold sizeD; rw [h]

set_option maxHeartbeats 1000000 in
theorem rdsize_any (w : World) (p : Nat) (bs : Bs) (h : RCur w B p bs) : Calls Try.prog 125 #[.pointer (some ⟨p, 0, none⟩)] w fun e w' => Rd w B p (fun n : Nat => .int .i64 (n : Int)) (sizeD bs) e w' := by
  have H := Lib.hid h
  clear h
  cases hd : numD 0 bs with
  | none =>
    have HD := Lib.hid hd
    clear hd
    go_enter Try.func125, Try.ntmps125
    go_wp2_with (go_at_call 84; refine (rdnum_any _ p _ H.out).mono ?_; intro e w2 hx; obtain ⟨rfl, hk⟩ := hx.no HD.out)
    exact ⟨rfl, Rd.mkNo (sizeD_num HD.out) ⟨rfl, hk⟩⟩
  | some x =>
    obtain ⟨n, r⟩ := x
    have HD := Lib.hid hd
    clear hd
    by_cases h1 : n ≤ 1125899906842624
    · have d1 : decide ((n : Int) ≤ 1125899906842624) = true := by simp; omega
      have d1n : decide (n ≤ 1125899906842624) = true := by simp; omega
      have H1 := Lib.hid h1
      have hwr : wrap64 (n : Int) = n := by unfold wrap64; omega
      clear h1
      go_enter Try.func125, Try.ntmps125
      go_wp2_with (first
        | (go_at_call 84; refine (rdnum_any _ p _ H.out).mono ?_; intro e w2 hx; obtain ⟨rfl, hc, hk⟩ := hx.yes HD.out; have HC := Lib.hid hc; have HK := Lib.hid hk; clear hx hc hk)
        | (go_at_call 86; refine (must_ok _).mono ?_; rintro e w3 ⟨rfl, hw⟩; have hw' := hw.symm; subst hw'; clear hw))
      go_ret
      exact Rd.mkYes (sizeD_of HD.out H1.out) ⟨by rw [hwr]; rfl, HC.out, HK.out⟩
    · have d1 : decide ((n : Int) ≤ 1125899906842624) = false := by simp; omega
      have d1n : decide (n ≤ 1125899906842624) = false := by simp; omega
      have H1 := Lib.hid h1
      clear h1
      go_enter Try.func125, Try.ntmps125
      go_wp2_with (first
        | (go_at_call 84; refine (rdnum_any _ p _ H.out).mono ?_; intro e w2 hx; obtain ⟨rfl, hc, hk⟩ := hx.yes HD.out; have HC := Lib.hid hc; have HK := Lib.hid hk; clear hx hc hk)
        | (go_at_call 86; refine (must_bad _).mono ?_; rintro e w3 ⟨rfl, hw⟩; have hw' := hw.symm; subst hw'; clear hw))
      exact ⟨rfl, Rd.mkNo (sizeD_no HD.out H1.out) ⟨rfl, HK.out⟩⟩

theorem RCur.cell {w : World} {p : Nat} {bs : Bs} (h : RCur w B p bs) : ∃ a c, w.heap[p]? = some (.cells #[.slice a bs.length c] 144 (0, 0)) := by
  obtain ⟨v, h⟩ := h
  obtain ⟨a, c, rfl⟩ := h.src.rd
  exact ⟨a, c, h.cells⟩
theorem rdend_any (w : World) (p : Nat) (bs : Bs) (h : ∃ a c, w.heap[p]? = some (.cells #[.slice a bs.length c] 144 (0, 0))) : Calls Try.prog 88 #[.pointer (some ⟨p, 0, none⟩)] w fun e w' => w' = w ∧ (bs = [] → e = .returned (.tuple #[])) ∧ (bs ≠ [] → e = .panicked bad) := by
  obtain ⟨a, c, h⟩ := h
  obtain ⟨c0, f0⟩ := cells_of_block h 0 (.slice a bs.length c) rfl
  clear h
  cases bs with
  | nil =>
    go_enter Try.func88, Try.ntmps88
    go_wp2_with (go_at_call 86; refine (must_ok _).mono ?_; rintro e w2 ⟨rfl, rfl⟩)
    exact bodyPost_end (results_none rfl _ _ _) rfl ⟨rfl, fun _ => rfl, fun h => absurd rfl h⟩
  | cons x t =>
    have d1 : (((x :: t).length : Int) == 0) = false := by simp; omega
    obtain ⟨L, hL⟩ : ∃ L, (x :: t).length = L := ⟨_, rfl⟩
    rw [hL] at c0 d1
    clear hL
    go_enter Try.func88, Try.ntmps88
    go_wp2_with (go_at_call 86; refine (must_bad _).mono ?_; rintro e w2 ⟨rfl, rfl⟩)
    exact ⟨rfl, rfl, fun h => absurd h (by simp), fun _ => rfl⟩

end Go.Proofs.Ytobpohjhhelljaa
