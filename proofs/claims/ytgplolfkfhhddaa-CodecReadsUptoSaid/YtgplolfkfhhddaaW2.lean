/- Layer 4 (codec): the program's flags; an object written. -/
import Derived.Test.YtgplolfkfhhddaaW1
namespace Go.Proofs.Ytgplolfkfhhddaa
open Go.RowKit
set_option linter.unusedVariables false
set_option linter.unusedSimpArgs false

/-- the flags of the first k -/
def flagN (l : List Bool) : Nat → Nat
  | 0 => 0
  | k + 1 => flagN l k + bitE (l.getD k false) (2 ^ k)
theorem flagN_lt (l : List Bool) : ∀ k, flagN l k < 2 ^ k
  | 0 => by simp [flagN]
  | k + 1 => by
    have := flagN_lt l k
    simp only [flagN, bitE, Nat.pow_succ]
    split <;> omega

theorem or_pow {k X : Nat} (hk : k < 8) (hX : X < 2 ^ k) : bits .or .u8 (X : Int) (2 ^ k % 256) = ((X + 2 ^ k : Nat) : Int) := by
  have e : ∀ k : Fin 8, ∀ x : Fin 256, x.val < 2 ^ k.val → bits .or .u8 ((x.val : Nat) : Int) (2 ^ k.val % 256) = ((x.val + 2 ^ k.val : Nat) : Int) := by decide +kernel
  have h8 : X < 256 := Nat.lt_of_lt_of_le hX (Nat.pow_le_pow_right (n := 2) (by omega) (show k ≤ 8 by omega))
  exact e ⟨k, hk⟩ ⟨X, h8⟩ hX
theorem getD_at {l : List Bool} {k : Nat} (h : k < l.length) : l.getD k false = l[k] := by simp [List.getD, h]

set_option maxHeartbeats 1000000 in
theorem flags_any (l : List Bool) (arr : Array Value) (fb : Nat) (w : World) (ha : arr.toList = l.map .bool) (hfb : w.heap[fb]? = some (.cells arr 4 (0, 0))) (hn : l.length ≤ 8) :
    Calls Try.prog 36 #[.slice (some ⟨fb, 0, none⟩) l.length l.length] w fun e w' => e = .returned (.int .u8 (flagN l l.length : Int)) ∧ w' = w := by
  have HA := Lib.hid ha
  have HF := Lib.hid hfb
  clear ha hfb
  go_enter Try.func36, Try.ntmps36
  go_wp2
  go_loop [2, 7] (fun s2 s7 => ∃ k : Nat, k ≤ l.length ∧ s7 = .int .i64 (k : Int) ∧ s2 = .int .u8 (flagN l k : Int)) (fun _ s7 => l.length - (intOf s7).toNat)
  case atStart => exact ⟨0, Nat.zero_le _, rfl, rfl⟩
  case round =>
    obtain ⟨k, hk, rfl, rfl⟩ := hrel
    by_cases hlt : k < l.length
    · have hcell : w.cell? ⟨fb, k, none⟩ = some (.bool l[k]) := by
        have e := HF.out
        simp only [World.cell?, e]
        have : arr.toList[k]? = some (.bool l[k]) := by rw [HA.out, List.getElem?_map, List.getElem?_eq_getElem hlt]; rfl
        simpa using this
      have hX := flagN_lt l k
      obtain ⟨X, hXe⟩ : ∃ X, flagN l k = X := ⟨_, rfl⟩
      rw [hXe] at hX ⊢
      have HXe := Lib.hid hXe
      have hX8 : X < 256 := Nat.lt_of_lt_of_le hX (Nat.pow_le_pow_right (n := 2) (by omega) (show k ≤ 8 by omega))
      clear hXe
      cases hb : l[k]
      · rw [hb] at hcell
        have HB := Lib.hid hb
        clear hb
        go_wp2
        go_round
        case rel => exact ⟨k + 1, by omega, by go_num, by rw [flagN, getD_at hlt, HB.out, HXe.out]; rfl⟩
        case measure => simp [intOf]; omega
      · rw [hb] at hcell
        have HB := Lib.hid hb
        clear hb
        go_wp2
        go_round
        case rel => exact ⟨k + 1, by omega, by go_num, by rw [or_pow (by omega) hX, flagN, getD_at hlt, HB.out, HXe.out]; rfl⟩
        case measure => simp [intOf]; omega
    · obtain rfl : k = l.length := by omega
      go_wp2
      go_ret
      exact ⟨rfl, rfl⟩

theorem WCur.alloc {w0 w : World} {B p : Nat} {bs : Bs} (h : WCur w0 w B p bs) (o : Go.Obj) : WCur w0 (w.alloc o) B p bs :=
  let ⟨_, a⟩ := h
  ⟨_, (heap_alloc_lt (heap_lt a.cells)).trans a.cells, a.row.alloc _, a.base, a.below.alloc a.big _, Keeps.alloc a.kept _⟩
theorem WCur.ne {w0 w : World} {B p : Nat} {bs : Bs} (h : WCur w0 w B p bs) : w.heap.size ≠ p ∧ p < w.heap.size := let ⟨_, a⟩ := h; ⟨fun e => absurd (heap_lt a.cells) (by omega), heap_lt a.cells⟩
/-- an object's box, kept -/
theorem WCur.box {w0 w : World} {B p b : Nat} {bs : Bs} {o : Obj} (h : WCur w0 w B p bs) (hb : w0.heap[b]? = some (.cells (cellsO o) 27 (0, 0))) (hp : b ≠ p) : ∀ k, w.cell? ⟨b, k, none⟩ = (cellsO o)[k]? :=
  cells_all (h.strs hb hp (by decide))

theorem wnumber_int (x : Int) (hx : 0 ≤ x ∧ x < 18446744073709551616) (w0 w : World) (B p : Nat) (bs : Bs) (hl : bs.length ≤ 1000000) (h : WCur w0 w B p bs) :
    Calls Try.prog 34 #[.pointer (some ⟨p, 0, none⟩), .int .u64 x] w fun e w' => e = .returned (.tuple #[]) ∧ WCur w0 w' B p (bs ++ numE x.toNat) :=
  wnumber_any x.toNat x (by omega) (by omega) w0 w B p bs hl h
theorem wtext_one (s : ByteArray) (hs : s.size ≤ 1000) (w0 w : World) (B p : Nat) (bs : Bs) (hl : bs.length ≤ 100000) (h : WCur w0 w B p bs) :
    Calls Try.prog 51 #[.pointer (some ⟨p, 0, none⟩), .slice (some ⟨w.heap.size, 0, none⟩) 1 1] (w.alloc (.cells #[.string s] 9)) fun e w' => e = .returned (.tuple #[]) ∧ WCur w0 w' B p (bs ++ textE s) := by
  refine (wtext_any [s] #[.string s] w.heap.size _ B p bs rfl heap_alloc_eq h.ne.1 (by simp) (by simpa using hs) hl (h.alloc _).fresh).mono ?_
  rintro e w' ⟨rfl, hx⟩
  exact ⟨rfl, by have := (h.alloc _).trans hx; simpa [textsE] using this⟩
theorem wtext_five (a b c d f : ByteArray) (hs : a.size ≤ 1000 ∧ b.size ≤ 1000 ∧ c.size ≤ 1000 ∧ d.size ≤ 1000 ∧ f.size ≤ 1000) (w0 w : World) (B p : Nat) (bs : Bs) (hl : bs.length ≤ 100000) (h : WCur w0 w B p bs) :
    Calls Try.prog 51 #[.pointer (some ⟨p, 0, none⟩), .slice (some ⟨w.heap.size, 0, none⟩) 5 5] (w.alloc (.cells #[.string a, .string b, .string c, .string d, .string f] 9)) fun e w' => e = .returned (.tuple #[]) ∧ WCur w0 w' B p (bs ++ (textE a ++ (textE b ++ (textE c ++ (textE d ++ textE f))))) := by
  refine (wtext_any [a, b, c, d, f] #[.string a, .string b, .string c, .string d, .string f] w.heap.size _ B p bs rfl heap_alloc_eq h.ne.1 (by simp) (by simpa using hs) hl (h.alloc _).fresh).mono ?_
  rintro e w' ⟨rfl, hx⟩
  exact ⟨rfl, by have := (h.alloc _).trans hx; simpa [textsE] using this⟩
theorem flags_four (o : Obj) (w : World) :
    Calls Try.prog 36 #[.slice (some ⟨w.heap.size, 0, none⟩) 4 4] (w.alloc (.cells #[.bool o.deleting, .bool o.hold, .bool o.keep, .bool o.wait] 4)) fun e w' => e = .returned (.int .u8 (flagsE o : Int)) ∧ w' = w.alloc (.cells #[.bool o.deleting, .bool o.hold, .bool o.keep, .bool o.wait] 4) := by
  refine (flags_any [o.deleting, o.hold, o.keep, o.wait] _ w.heap.size _ rfl heap_alloc_eq (by simp)).mono ?_
  rintro e w' ⟨rfl, rfl⟩
  refine ⟨?_, rfl⟩
  simp [flagN, flagsE]

theorem piece_lens {o : Obj} (ht : o.Typed) (h : rightB o = true) : (textE o.name).length ≤ 41 ∧ (textE o.cls).length ≤ 41 ∧ (textE o.zone).length ≤ 41 ∧ (textE o.node).length ≤ 41 ∧ (textE o.claim).length ≤ 41 ∧ (textE o.volume).length ≤ 41 ∧ (textE o.source).length ≤ 41 ∧ (numE o.version.toNat).length ≤ 10 ∧ (numE o.born.toNat).length ≤ 10 ∧ (numE o.size.toNat).length ≤ 10 ∧ (numE o.got.toNat).length ≤ 10 ∧ (numE o.num.toNat).length ≤ 10 ∧ (numE o.tag.toNat).length ≤ 10 := by
  obtain ⟨hn, hx⟩ := right_texts h
  obtain ⟨hs, hg⟩ := right_sizes h
  obtain ⟨t1, t2, t3, t4, t5, t6, t7⟩ := ht
  exact ⟨(textE_len hn).2, (textE_len (hx o.cls (by simp [textsO]))).2, (textE_len (hx o.zone (by simp [textsO]))).2, (textE_len (hx o.node (by simp [textsO]))).2, (textE_len (hx o.claim (by simp [textsO]))).2, (textE_len (hx o.volume (by simp [textsO]))).2, (textE_len (hx o.source (by simp [textsO]))).2,
    numE_64 (by omega), numE_64 (by omega), numE_64 (by omega), numE_64 (by omega), numE_64 (by omega), numE_64 (by omega)⟩

end Go.Proofs.Ytgplolfkfhhddaa
