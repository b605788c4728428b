/- Layer 4 (codec): the program's reader: its small functions. -/
import Derived.Test.YtgplolfkfhhddaaByt
namespace Go.Proofs.Ytgplolfkfhhddaa
open Go.RowKit
set_option linter.unusedVariables false
set_option linter.unusedSimpArgs false

variable {B : Nat}
/-- reading was given up -/
def bad : List PanicEntry := [{ v := .iface 79 (.agg #[]), recovered := false }]

theorem must_ok (w : World) : Calls Try.prog 41 #[.bool true] w fun e w' => e = .returned (.tuple #[]) ∧ w' = w := by
  go_enter Try.func41, Try.ntmps41
  go_wp2
  exact bodyPost_end (results_none rfl _ _ _) rfl ⟨rfl, rfl⟩
theorem must_bad (w : World) : Calls Try.prog 41 #[.bool false] w fun e w' => e = .panicked bad ∧ w' = w := by
  go_enter Try.func41, Try.ntmps41
  go_wp2
  exact ⟨rfl, rfl, rfl⟩

def blk : Value → Option Nat
  | .slice (some a) _ _ => some a.block
  | _ => none
/-- bytes that lie below block B, or none at all -/
def SrcB (w : World) (B : Nat) (v : Value) (l : Bs) : Prop := (IsB w v l ∧ ∀ b, blk v = some b → b < B) ∨ (l = [] ∧ ∃ a c, v = .slice a 0 c ∧ c ≤ maxLen)
theorem SrcB.rd {w : World} {B : Nat} {v : Value} {l : Bs} (h : SrcB w B v l) : ∃ a c, v = .slice a l.length c := by
  rcases h with ⟨h, _⟩ | ⟨rfl, a, c, rfl, _⟩
  · obtain ⟨a, c, e, _⟩ := h.rd; exact ⟨a, c, e⟩
  · exact ⟨a, c, rfl⟩
/-- bytes that were taken -/
def Took (w : World) (v : Value) (l : Bs) : Prop := IsB w v l ∨ (l = [] ∧ ∃ a c, v = .slice a 0 c)
theorem run_text0 (w : World) (a : Option Addr) (c : Nat) : (convert 28 9 (.slice a 0 c)).run Try.prog w = .ok (.string ⟨#[]⟩) w := by
  rw [run_convert_bytes_string w 28 9 5 a 0 c und_B und_b und_str]
  cases a with
  | none => rfl
  | some a =>
    have := run_bytesToString (P := Try.prog) w a 0 c [] (by rfl)
    rw [this]; rfl
theorem Took.text {w : World} {v : Value} {l : Bs} (h : Took w v l) : (convert 28 9 v).run Try.prog w = .ok (.string ⟨l.toArray⟩) w := by
  rcases h with h | ⟨rfl, a, c, rfl⟩
  · exact run_text h
  · exact run_text0 w a c
/-- a reader at p, of which the bytes bs are left -/
structure RAt (w : World) (B p : Nat) (v : Value) (bs : Bs) : Prop where
  cells : w.heap[p]? = some (.cells #[v] 55 (0, 0))
  src : SrcB w B v bs
  le : B ≤ p
def RCur (w : World) (B p : Nat) (bs : Bs) : Prop := ∃ v, RAt w B p v bs
theorem IsB.keep {w w' : World} {v : Value} {l : Bs} (h : IsB w v l) (hk : ∀ b, blk v = some b → ∀ k, w'.cell? ⟨b, k, none⟩ = w.cell? ⟨b, k, none⟩) : IsB w' v l := by
  rcases h with h | ⟨b, o, c, rfl, h1, h2, h3⟩
  · exact .inl h
  · exact .inr ⟨b, o, c, rfl, h1, h2, fun k hx => (hk b rfl _).trans (h3 k hx)⟩
abbrev KeepP (p : Nat) (w w' : World) : Prop := Keeps (fun i => i = p) w w'

theorem KeepP.cell {p : Nat} {w w' : World} (h : KeepP p w w') {b k : Nat} (hb : b < w.heap.size) (hp : b ≠ p) : w'.cell? ⟨b, k, none⟩ = w.cell? ⟨b, k, none⟩ := World.cell?_of_block (a := ⟨b, k, none⟩) (h.block b hb hp)
theorem IsB.keepP {w w' : World} {p : Nat} {v : Value} {l : Bs} (h : IsB w v l) (hlo : ∀ b, blk v = some b → b < p) (hp : p < w.heap.size) (hk : KeepP p w w') : IsB w' v l :=
  h.keep fun b e k => hk.cell (Nat.lt_trans (hlo b e) hp) (Nat.ne_of_lt (hlo b e))
theorem keepP_set (w : World) (p : Nat) (v : Value) : KeepP p w (w.setCell ⟨p, 0, none⟩ v) := Keeps.setCell (F := fun i => i = p) (Keeps.refl _ _) (fun _ => rfl) v
theorem SrcB.keepP {w w' : World} {p : Nat} {v : Value} {l : Bs} (h : SrcB w B v l) (hB : B ≤ p) (hp : p < w.heap.size) (hk : KeepP p w w') : SrcB w' B v l := by
  rcases h with ⟨h, hlo⟩ | h
  · exact .inl ⟨h.keepP (fun b e => Nat.lt_of_lt_of_le (hlo b e) hB) hp hk, hlo⟩
  · exact .inr h
theorem RAt.set {w : World} {p : Nat} {v v' : Value} {bs bs' : Bs} (h : RAt w B p v bs) (hs : SrcB w B v' bs') : RCur (w.setCell ⟨p, 0, none⟩ v') B p bs' :=
  ⟨v', by rw [heap_setCell_same h.cells]; rfl, hs.keepP h.le (heap_lt h.cells) (keepP_set _ _ _), h.le⟩
theorem IsB.nil (w : World) (b o c : Nat) (hc : c ≤ maxLen) : IsB w (.slice (some ⟨b, o, none⟩) 0 c) [] := .inr ⟨b, o, c, rfl, Nat.zero_le _, hc, fun k hk => absurd hk (by simp)⟩

set_option maxHeartbeats 1000000 in
theorem take_ok (n : Nat) (w : World) (p : Nat) (bs : Bs) (h : RCur w B p bs) (hn : n ≤ bs.length) :
    Calls Try.prog 56 #[.pointer (some ⟨p, 0, none⟩), .int .i64 (n : Int)] w fun e w' => ∃ v, e = .returned v ∧ Took w' v (bs.take n) ∧ RCur w' B p (bs.drop n) ∧ KeepP p w w' := by
  obtain ⟨v, h⟩ := h
  have H := Lib.hid h
  obtain ⟨c0, f0⟩ := cells_of_block h.cells 0 v rfl
  have hp := heap_lt h.cells
  rcases h.src with ⟨⟨rfl, rfl⟩ | ⟨b, o, c, rfl, h1, h2, h3⟩, hlo0⟩ | ⟨rfl, a, c, rfl, hcm⟩
  · obtain rfl : n = 0 := by simpa using hn
    clear h hlo0
    go_enter Try.func56, Try.ntmps56
    go_wp2_with (go_at_call 41; refine (must_ok _).mono ?_; rintro e w2 ⟨rfl, rfl⟩)
    go_ret
    exact ⟨_, rfl, .inl (.inl ⟨rfl, rfl⟩), H.out.set (.inr ⟨rfl, _, _, rfl, Nat.zero_le _⟩), keepP_set _ _ _⟩
  · have H3 := Lib.hid h3
    have hloB : b < B := hlo0 b rfl
    have hlo : b < p := Nat.lt_of_lt_of_le hloB h.le
    clear h h3 hlo0
    have e0 : decide ((n : Int) ≤ (bs.length : Int)) = true := by simp; omega
    have etl : (bs.take n).length = n := by simp; omega
    have edl : (bs.drop n).length = bs.length - n := by simp
    have HT : ∀ c', n ≤ c' → c' ≤ maxLen → IsB w (.slice (some ⟨b, o, none⟩) n c') (bs.take n) := fun c' hc hm => .inr ⟨b, o, c', by rw [etl], by omega, hm, fun k hk => by rw [List.getElem_take]; exact H3.out k (by omega)⟩
    have HT := Lib.hid HT
    have HD : ∀ c', bs.length - n ≤ c' → c' ≤ maxLen → IsB w (.slice (some ⟨b, o + n, none⟩) (bs.length - n) c') (bs.drop n) := fun c' hc hm => .inr ⟨b, o + n, c', by rw [edl], by omega, hm, fun k hk => by rw [List.getElem_drop, Nat.add_assoc]; exact H3.out (n + k) (by omega)⟩
    have HD := Lib.hid HD
    go_enter Try.func56, Try.ntmps56
    go_wp2_with (go_at_call 41; refine (must_ok _).mono ?_; rintro e w2 ⟨rfl, rfl⟩)
    · subst h
      have e1 : bs.length = c := by omega
      have e2 : bs.drop c = [] := by rw [← e1]; simp
      go_ret
      refine ⟨_, rfl, .inl ((HT.out c (by omega) h2).keepP (fun b' e => by cases e; exact hlo) hp (keepP_set _ _ _)), ?_, keepP_set _ _ _⟩
      rw [e2, e1, Nat.sub_self]
      exact H.out.set (.inl ⟨IsB.nil _ _ _ _ (Nat.zero_le _), fun b' e => by cases e; exact hloB⟩)
    · go_ret
      exact ⟨_, rfl, .inl ((HT.out c (by omega) h2).keepP (fun b' e => by cases e; exact hlo) hp (keepP_set _ _ _)), H.out.set (.inl ⟨HD.out (c - n) (by omega) (by omega), fun b' e => by cases e; exact hloB⟩), keepP_set _ _ _⟩
  · obtain rfl : n = 0 := by simpa using hn
    clear h
    have HS : ∀ a' c', c' ≤ maxLen → SrcB w B (.slice a' 0 c') [] := fun a' c' h => .inr ⟨rfl, a', c', rfl, h⟩
    have HS := Lib.hid HS
    go_enter Try.func56, Try.ntmps56
    go_wp2_with (go_at_call 41; refine (must_ok _).mono ?_; rintro e w2 ⟨rfl, rfl⟩)
    all_goals go_ret
    all_goals exact ⟨_, rfl, .inr ⟨rfl, _, _, rfl⟩, H.out.set (HS.out _ _ (by omega)), keepP_set _ _ _⟩
theorem take_no (n : Nat) (w : World) (p : Nat) (bs : Bs) (h : RCur w B p bs) (hn : bs.length < n) :
    Calls Try.prog 56 #[.pointer (some ⟨p, 0, none⟩), .int .i64 (n : Int)] w fun e w' => e = .panicked bad ∧ w' = w := by
  obtain ⟨v, h⟩ := h
  obtain ⟨c0, f0⟩ := cells_of_block h.cells 0 v rfl
  obtain ⟨a, c, rfl⟩ := h.src.rd
  clear h
  have e0 : decide ((n : Int) ≤ (bs.length : Int)) = false := by simp; omega
  have e1 : decide (n ≤ bs.length) = false := by simp; omega
  go_enter Try.func56, Try.ntmps56
  go_wp2_with (go_at_call 41; refine (must_bad _).mono ?_; rintro e w2 ⟨rfl, rfl⟩)
  exact ⟨rfl, rfl, rfl⟩

/-- what a reader's call does: as d says -/
def Rd {α : Type} (w : World) (B p : Nat) (val : α → Value) (d : Option (α × Bs)) (e : Ending) (w' : World) : Prop :=
  match d with
  | some (x, r) => e = .returned (val x) ∧ RCur w' B p r ∧ KeepP p w w'
  | none => e = .panicked bad ∧ KeepP p w w'

theorem isB_one {w : World} {v : Value} {c : UInt8} {r : Bs} (h : Took w v ((c :: r).take 1)) : ∃ b o c1, v = .slice (some ⟨b, o, none⟩) 1 c1 ∧ w.cell? ⟨b, o, none⟩ = some (.int .u8 (c.toNat : Int)) := by
  rcases h with (⟨_, h0⟩ | ⟨b, o, c1, rfl, h1, h2, h3⟩) | ⟨h0, _⟩
  · simp at h0
  · exact ⟨b, o, c1, by simp, by simpa using h3 0 (by simp)⟩
  · simp at h0

set_option maxHeartbeats 1000000 in
theorem rdbyte_any (w : World) (p : Nat) (bs : Bs) (h : RCur w B p bs) : Calls Try.prog 40 #[.pointer (some ⟨p, 0, none⟩)] w fun e w' => Rd w B p (fun c : UInt8 => .int .u8 (c.toNat : Int)) (byteD bs) e w' := by
  have H := Lib.hid h
  cases bs with
  | nil =>
    go_enter Try.func40, Try.ntmps40
    go_wp2_with (go_at_call 56; refine (take_no 1 _ p [] H.out (by simp)).mono ?_; rintro e w2 ⟨rfl, rfl⟩)
    exact ⟨rfl, rfl, Keeps.refl _ _⟩
  | cons c r =>
    go_enter Try.func40, Try.ntmps40
    go_wp2_with (go_at_call 56; refine (take_ok 1 _ p (c :: r) H.out (by simp)).mono ?_; rintro e w2 ⟨v, rfl, hrow, hc, hk⟩; have HC := Lib.hid hc; have HK := Lib.hid hk; obtain ⟨b, o, c1, rfl, hc0⟩ := isB_one hrow; clear hc hk hrow)
    go_ret
    exact ⟨rfl, HC.out, HK.out⟩

/-- one byte is left, or not -/
theorem Rd.yes {α : Type} {w w' : World} {p : Nat} {val : α → Value} {d : Option (α × Bs)} {x : α} {r : Bs} {e : Ending} (h : Rd w B p val d e w') (hd : d = some (x, r)) : e = .returned (val x) ∧ RCur w' B p r ∧ KeepP p w w' := by subst hd; exact h
theorem Rd.no {α : Type} {w w' : World} {p : Nat} {val : α → Value} {d : Option (α × Bs)} {e : Ending} (h : Rd w B p val d e w') (hd : d = none) : e = .panicked bad ∧ KeepP p w w' := by subst hd; exact h
theorem Rd.mkYes {α : Type} {w w' : World} {p : Nat} {val : α → Value} {d : Option (α × Bs)} {x : α} {r : Bs} {e : Ending} (hd : d = some (x, r)) (h : e = .returned (val x) ∧ RCur w' B p r ∧ KeepP p w w') : Rd w B p val d e w' := by subst hd; exact h
theorem Rd.mkNo {α : Type} {w w' : World} {p : Nat} {val : α → Value} {d : Option (α × Bs)} {e : Ending} (hd : d = none) (h : e = .panicked bad ∧ KeepP p w w') : Rd w B p val d e w' := by subst hd; exact h

end Go.Proofs.Ytgplolfkfhhddaa
