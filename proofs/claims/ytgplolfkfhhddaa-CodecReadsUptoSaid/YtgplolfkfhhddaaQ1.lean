/- Layer 4 (codec): the document's reader: sizes, texts. -/
import Derived.Test.YtgplolfkfhhddaaR1
namespace Go.Proofs.Ytgplolfkfhhddaa
open Go.RowKit
set_option linter.unusedVariables false
set_option linter.unusedSimpArgs false

/-- the document's reader at p: the bytes l are left, and whether they are bad -/
structure QAt (w : World) (B p : Nat) (v : Value) (l : Bs) (bad : Bool) : Prop where
  cells : w.heap[p]? = some (.cells #[v, .bool bad] 68 (0, 0))
  src : SrcB w B v l
  le : B ≤ p
def QCur (w : World) (B p : Nat) (l : Bs) (bad : Bool) : Prop := ∃ v, QAt w B p v l bad
theorem QAt.setBad {w : World} {B p : Nat} {v : Value} {l : Bs} {bad : Bool} (h : QAt w B p v l bad) (b : Bool) : QAt (w.setCell ⟨p, 1, none⟩ (.bool b)) B p v l b :=
  ⟨by rw [heap_setCell_same h.cells]; rfl, h.src.keepP h.le (heap_lt h.cells) (Keeps.setCell (F := fun i => i = p) (Keeps.refl _ _) (fun _ => rfl) _), h.le⟩
theorem QAt.setRow {w : World} {B p : Nat} {v v' : Value} {l l' : Bs} {bad : Bool} (h : QAt w B p v l bad) (hs : SrcB w B v' l') : QAt (w.setCell ⟨p, 0, none⟩ v') B p v' l' bad :=
  ⟨by rw [heap_setCell_same h.cells]; rfl, hs.keepP h.le (heap_lt h.cells) (keepP_set _ _ _), h.le⟩
theorem keepP_at (w : World) (p k : Nat) (v : Value) : KeepP p w (w.setCell ⟨p, k, none⟩ v) := Keeps.setCell (F := fun i => i = p) (Keeps.refl _ _) (fun _ => rfl) v

set_option maxHeartbeats 1000000 in
theorem one_nil (w : World) (B p : Nat) (bad : Bool) (h : QCur w B p [] bad) : Calls Try.prog 43 #[.pointer (some ⟨p, 0, none⟩)] w fun e w' => e = .returned (.int .u8 0) ∧ QCur w' B p [] true ∧ KeepP p w w' := by
  obtain ⟨v, h⟩ := h
  have H := Lib.hid h
  obtain ⟨c0, f0⟩ := cells_of_block h.cells 0 v rfl
  obtain ⟨c1, f1⟩ := cells_of_block h.cells 1 (.bool bad) rfl
  obtain ⟨a, c, rfl⟩ := h.src.rd
  clear h
  go_enter Try.func43, Try.ntmps43
  go_wp2
  go_ret
  exact ⟨rfl, ⟨_, H.out.setBad true⟩, keepP_at _ _ _ _⟩

set_option maxHeartbeats 1000000 in
theorem one_cons (w : World) (B p : Nat) (x : UInt8) (r : Bs) (bad : Bool) (h : QCur w B p (x :: r) bad) : Calls Try.prog 43 #[.pointer (some ⟨p, 0, none⟩)] w fun e w' => e = .returned (.int .u8 (x.toNat : Int)) ∧ QCur w' B p r bad ∧ KeepP p w w' := by
  obtain ⟨v, h⟩ := h
  have H := Lib.hid h
  obtain ⟨c0, f0⟩ := cells_of_block h.cells 0 v rfl
  rcases h.src with ⟨⟨rfl, h0⟩ | ⟨b, o, c, rfl, h1, h2, h3⟩, hlo⟩ | ⟨h0, _⟩
  · cases h0
  · have cx : w.cell? ⟨b, o, none⟩ = some (.int .u8 (x.toNat : Int)) := h3 0 (by simp)
    have hloB : b < B := hlo b rfl
    have HD : ∀ c', r.length ≤ c' → c' ≤ maxLen → SrcB w B (.slice (some ⟨b, o + 1, none⟩) r.length c') r := fun c' hc hm => .inl ⟨.inr ⟨b, o + 1, c', rfl, hc, hm, fun k hk => by
      have := h3 (k + 1) (by simp; omega)
      simp only [List.getElem_cons_succ] at this
      rw [← this]; congr 2; omega⟩, fun b' e => by simp [blk] at e; subst e; exact hloB⟩
    have HD := Lib.hid HD
    have HZ : ∀ a', r = [] → SrcB w B (.slice a' 0 0) r := fun a' e => .inr ⟨e, a', 0, rfl, Nat.zero_le _⟩
    have HZ := Lib.hid HZ
    obtain ⟨L, hL⟩ : ∃ L, r.length = L := ⟨_, rfl⟩
    have hl : (x :: r).length = L + 1 := by simp [hL]
    rw [hl] at c0 h1
    have d1 : ((((L + 1 : Nat) : Int)) == 0) = false := by simp; omega
    have hp : p < w.heap.size := heap_lt h.cells
    have HL := Lib.hid hL
    clear h h3 hlo hL hl
    go_enter Try.func43, Try.ntmps43
    go_wp2
    · subst h
      obtain rfl : L = 0 := by omega
      go_ret
      exact ⟨rfl, ⟨_, H.out.setRow (HZ.out _ (List.length_eq_zero_iff.1 HL.out))⟩, keepP_at _ _ _ _⟩
    · have hs := HD.out (c - 1) (by rw [HL.out]; omega) (by omega)
      rw [HL.out] at hs
      go_ret
      exact ⟨rfl, ⟨_, H.out.setRow hs⟩, keepP_at _ _ _ _⟩
  · cases h0

/-- a byte, or none: then it is bad, and the byte is 0 -/
theorem rone_any (w : World) (B p : Nat) (l : Bs) (bad : Bool) (h : QCur w B p l bad) : Calls Try.prog 43 #[.pointer (some ⟨p, 0, none⟩)] w fun e w' =>
    ∃ (C : Nat) (r : Bs) (b : Bool), e = .returned (.int .u8 (C : Int)) ∧ C < 256 ∧ QCur w' B p r b ∧ KeepP p w w' ∧ ((l = [] ∧ C = 0 ∧ r = [] ∧ b = true) ∨ (∃ x : UInt8, l = x :: r ∧ x.toNat = C ∧ b = bad)) := by
  cases l with
  | nil => exact (one_nil w B p bad h).mono fun e w' ⟨h1, h2, h3⟩ => ⟨0, [], true, h1, by omega, h2, h3, .inl ⟨rfl, rfl, rfl, rfl⟩⟩
  | cons x r => exact (one_cons w B p x r bad h).mono fun e w' ⟨h1, h2, h3⟩ => ⟨x.toNat, r, bad, h1, x.toNat_lt, h2, h3, .inr ⟨x, rfl, rfl, rfl⟩⟩


/-- what a call of the document's reader does, at bytes that were good or not (bad): it is good behind it just where d says something, and then that is the value -/
def Qd {α : Type} (w : World) (B p : Nat) (bad : Bool) (d : Option (α × Bs)) (ok : Value → Prop) (val : α → Value) (e : Ending) (w' : World) : Prop :=
  ∃ x r b, e = .returned x ∧ ok x ∧ QCur w' B p r b ∧ KeepP p w w' ∧ (b = true → bad = true ∨ d = none) ∧ (b = false → bad = false ∧ ∃ y, x = val y ∧ d = some (y, r))

def GoodN (bs : Bs) (i : Nat) (x : Int) (l : Bs) : Prop := ∃ acc : Nat, x = (acc : Int) ∧ i ≤ 9 ∧ acc < 2 ^ (7 * i) ∧ numD 0 bs = (numD i l).map fun y => (acc + 2 ^ (7 * i) * y.1, y.2)
def BadN (bad : Bool) (bs : Bs) : Prop := bad = true ∨ numD 0 bs = none
def OneC (l : Bs) (C : Nat) (r : Bs) (b b2 : Bool) : Prop := (l = [] ∧ C = 0 ∧ r = [] ∧ b2 = true) ∨ (∃ x : UInt8, l = x :: r ∧ x.toNat = C ∧ b2 = b)

theorem bad_cond {bad b b2 : Bool} {bs l r : Bs} {i C : Nat} {x : Int} (HB : b = true → BadN bad bs) (HG : b = false → bad = false ∧ GoodN bs i x l) (HC : OneC l C r b b2) (h : (i = 9 ∧ 1 < C) ∨ (C = 0 ∧ 0 < i)) : BadN bad bs := by
  cases b with
  | true => exact HB rfl
  | false =>
    obtain ⟨hb, acc, hx, hi, ha, hD⟩ := HG rfl
    rcases HC with ⟨rfl, _⟩ | ⟨y, rfl, hy, _⟩
    · exact .inr (by rw [hD]; cases i <;> rfl)
    · exact .inr (D_no hD rfl hy hi h)
theorem bad_one {bad b b2 : Bool} {bs l r : Bs} {i C : Nat} {x : Int} (HB : b = true → BadN bad bs) (HG : b = false → bad = false ∧ GoodN bs i x l) (HC : OneC l C r b b2) (h : b2 = true) : BadN bad bs := by
  cases b with
  | true => exact HB rfl
  | false =>
    obtain ⟨hb, acc, hx, hi, ha, hD⟩ := HG rfl
    rcases HC with ⟨rfl, _⟩ | ⟨y, rfl, hy, e⟩
    · exact .inr (by rw [hD]; cases i <;> rfl)
    · rw [e] at h; cases h
theorem vstepR {acc C S i : Nat} (hS : S = 7 * i) (hi : i ≤ 9) (hacc : acc < 2 ^ S) (hc : C < 256) (h9 : i = 9 → C ≤ 1) :
    bits .or .u64 (acc : Int) (IntKind.u64.wrap ((C : Int) % 128 * 2 ^ min S 64)) = ((acc + 2 ^ S * (C % 128) : Nat) : Int) := by
  have := vstep hS hi hacc hc h9
  have e1 : bits .and .u8 (C : Int) 127 = ((C % 128 : Nat) : Int) := by
    have := u8_and_nat C 127 hc (by omega)
    rw [nat_mask7] at this
    exact this
  rw [e1] at this
  have e3 : IntKind.u64.wrap (((C % 128 : Nat) : Int)) = (C : Int) % 128 := by rw [IntKind.wrap_u64]; omega
  rw [e3] at this
  exact this
theorem good_lo {bad b b2 : Bool} {bs l r : Bs} {i C S : Nat} {x : Int} (HG : b = false → bad = false ∧ GoodN bs i x l) (HC : OneC l C r b b2) (h2 : b2 = false) (hS : S = 7 * i) (hc : C < 128) (h9 : i = 9 → C ≤ 1) (h0 : ¬ (C = 0 ∧ 0 < i)) :
    bad = false ∧ ∃ n : Nat, bits .or .u64 x (IntKind.u64.wrap ((C : Int) % 128 * 2 ^ min S 64)) = (n : Int) ∧ numD 0 bs = some (n, r) := by
  rcases HC with ⟨_, _, _, e⟩ | ⟨y, rfl, hy, e⟩
  · rw [e] at h2; cases h2
  · rw [e] at h2
    obtain ⟨hb, acc, rfl, hi, ha, hD⟩ := HG h2
    rw [← hS] at ha
    exact ⟨hb, _, vstepR hS hi ha (by omega) h9, D_lo hD hS hy hi h9 hc h0⟩
theorem good_hi {bad b b2 : Bool} {bs l r : Bs} {i C S : Nat} {x : Int} (HG : b = false → bad = false ∧ GoodN bs i x l) (HC : OneC l C r b b2) (h2 : b2 = false) (hS : S = 7 * i) (hi : i < 9) (hc : 128 ≤ C) (hc8 : C < 256) :
    bad = false ∧ GoodN bs (i + 1) (bits .or .u64 x (IntKind.u64.wrap ((C : Int) % 128 * 2 ^ min S 64))) r := by
  rcases HC with ⟨_, _, _, e⟩ | ⟨y, rfl, hy, e⟩
  · rw [e] at h2; cases h2
  · rw [e] at h2
    obtain ⟨hb, acc, rfl, _, ha, hD⟩ := HG h2
    rw [← hS] at ha
    exact ⟨hb, _, vstepR hS (by omega) ha hc8 (by omega), by omega, acc_hi hS ha, D_hi hD hS hy hi hc⟩

set_option maxRecDepth 100000 in
set_option maxHeartbeats 8000000 in
theorem qnum_any (w : World) (B p : Nat) (bs : Bs) (bad : Bool) (h : QCur w B p bs bad) : Calls Try.prog 42 #[.pointer (some ⟨p, 0, none⟩)] w fun e w' => Qd w B p bad (numD 0 bs) (fun x => ∃ n : Int, x = .int .u64 n) (fun n : Nat => .int .u64 (n : Int)) e w' := by
  have H := Lib.hid h
  clear h
  go_enter Try.func42, Try.ntmps42
  go_wp2
  go_loopw [3, 4] (fun s3 s4 wr => ∃ (i : Nat) (x : Int) (l : Bs) (b : Bool), s3 = .int .u64 x ∧ s4 = .int .i64 (i : Int) ∧ i ≤ 10 ∧ Hid (QCur wr B p l b) ∧ Hid (KeepP p w wr) ∧ Hid (b = true → BadN bad bs) ∧ Hid (b = false → bad = false ∧ GoodN bs i x l)) (fun _ s4 _ => 10 - (intOf s4).toNat)
  case atStart => exact ⟨0, 0, bs, bad, rfl, rfl, by omega, H, Lib.hid (Keeps.refl _ _), Lib.hid (fun h => .inl h), Lib.hid (fun h => ⟨h, 0, rfl, by omega, by simp, by cases numD 0 bs <;> simp⟩)⟩
  case round =>
    obtain ⟨i, x, l, b, rfl, rfl, hi, HQ, HK, HB, HG⟩ := hrel
    by_cases hlt : i < 10
    · have d0 : decide ((i : Int) < 10) = true := by simp; omega
      have d0n : decide (i < 10) = true := by simp; omega
      obtain ⟨S, hS⟩ : ∃ S, S = 7 * i := ⟨_, rfl⟩
      have hsh : ∀ (y : Int) (w : World), (Op.shift .shl .u64 y .i64 (7 * (i : Int))).run Try.prog w = .ok (.int .u64 (IntKind.u64.wrap (y * 2 ^ min S 64))) w := by
        intro y w
        have e1 : ¬ (7 * (i : Int) < 0) := by omega
        have e2 : (7 * (i : Int)).toNat = S := by omega
        unfold Op.shift
        rw [if_neg e1, e2]
        rfl
      have hw7 : wrap64 (7 * (i : Int)) = 7 * (i : Int) := by unfold wrap64; omega
      have hw1 : wrap64 ((i : Int) + 1) = ((i + 1 : Nat) : Int) := by unfold wrap64; omega
      have HW1 := Lib.hid hw1
      have HS := Lib.hid hS
      clear hS hw1
      go_wp2_with fail
      refine (rone_any _ B p l b HQ.out).mono ?_
      rintro e w2 ⟨C, r, b2, rfl, hC8, ⟨v, hq⟩, hk, hcase⟩
      obtain ⟨a, c, rfl⟩ := hq.src.rd
      obtain ⟨c1, g1⟩ := cells_of_block hq.cells 1 (.bool b2) rfl
      have HQ2 := Lib.hid hq
      have HK2 := Lib.hid (HK.out.trans hk)
      have HC := Lib.hid (show OneC l C r b b2 from hcase)
      have HC8 := Lib.hid hC8
      have HV := HS.out
      clear hq hk hcase
      rcases (show i = 0 ∨ (0 < i ∧ i < 9) ∨ i = 9 by omega) with hic | hic | hic
      · have f1 : ((i : Int) == 9) = false := by simp; omega
        have f3 : decide ((0 : Int) < (i : Int)) = false := by simp; omega
        have f3n : decide (0 < i) = false := by simp; omega
        rcases (show C = 0 ∨ C = 1 ∨ (2 ≤ C ∧ C < 128) ∨ 128 ≤ C by omega) with hcc | hcc | hcc | hcc
        · have f2 : decide ((1 : Int) < (C : Int)) = false := by simp; omega
          have f2n : decide (1 < C) = false := by simp; omega
          have f4 : ((C : Int) == 0) = true := by simp; omega
          have f5 : decide ((C : Int) < 128) = true := by simp; omega
          have f5n : decide (C < 128) = true := by simp; omega
          have HI := Lib.hid hic
          have HCC := Lib.hid hcc
          clear hic hcc hi hlt HV hC8
          go_wp2
          go_ret
          exact ⟨_, r, b2, rfl, ⟨_, rfl⟩, ⟨_, HQ2.out⟩, HK2.out, fun h => bad_one HB.out HG.out HC.out h, fun h => by obtain ⟨hb, n, e1, e2⟩ := good_lo HG.out HC.out h HS.out (by have := HCC.out; omega) (by have := HI.out; have := HCC.out; omega) (by have := HI.out; have := HCC.out; omega); exact ⟨hb, n, by first | exact congrArg (Value.int .u64) e1 | (refine congrArg (Value.int .u64) ?_; rw [← e1, show min S 64 = 7 * i by have := HS.out; have := HI.out; omega]), e2⟩⟩
        · have f2 : decide ((1 : Int) < (C : Int)) = false := by simp; omega
          have f2n : decide (1 < C) = false := by simp; omega
          have f4 : ((C : Int) == 0) = false := by simp; omega
          have f5 : decide ((C : Int) < 128) = true := by simp; omega
          have f5n : decide (C < 128) = true := by simp; omega
          have HI := Lib.hid hic
          have HCC := Lib.hid hcc
          clear hic hcc hi hlt HV hC8
          go_wp2
          go_ret
          exact ⟨_, r, b2, rfl, ⟨_, rfl⟩, ⟨_, HQ2.out⟩, HK2.out, fun h => bad_one HB.out HG.out HC.out h, fun h => by obtain ⟨hb, n, e1, e2⟩ := good_lo HG.out HC.out h HS.out (by have := HCC.out; omega) (by have := HI.out; have := HCC.out; omega) (by have := HI.out; have := HCC.out; omega); exact ⟨hb, n, by first | exact congrArg (Value.int .u64) e1 | (refine congrArg (Value.int .u64) ?_; rw [← e1, show min S 64 = 7 * i by have := HS.out; have := HI.out; omega]), e2⟩⟩
        · have f2 : decide ((1 : Int) < (C : Int)) = true := by simp; omega
          have f2n : decide (1 < C) = true := by simp; omega
          have f4 : ((C : Int) == 0) = false := by simp; omega
          have f5 : decide ((C : Int) < 128) = true := by simp; omega
          have f5n : decide (C < 128) = true := by simp; omega
          have HI := Lib.hid hic
          have HCC := Lib.hid hcc
          clear hic hcc hi hlt HV hC8
          go_wp2
          go_ret
          exact ⟨_, r, b2, rfl, ⟨_, rfl⟩, ⟨_, HQ2.out⟩, HK2.out, fun h => bad_one HB.out HG.out HC.out h, fun h => by obtain ⟨hb, n, e1, e2⟩ := good_lo HG.out HC.out h HS.out (by have := HCC.out; omega) (by have := HI.out; have := HCC.out; omega) (by have := HI.out; have := HCC.out; omega); exact ⟨hb, n, by first | exact congrArg (Value.int .u64) e1 | (refine congrArg (Value.int .u64) ?_; rw [← e1, show min S 64 = 7 * i by have := HS.out; have := HI.out; omega]), e2⟩⟩
        · have f2 : decide ((1 : Int) < (C : Int)) = true := by simp; omega
          have f2n : decide (1 < C) = true := by simp; omega
          have f4 : ((C : Int) == 0) = false := by simp; omega
          have f5 : decide ((C : Int) < 128) = false := by simp; omega
          have f5n : decide (C < 128) = false := by simp; omega
          have HI := Lib.hid hic
          have HCC := Lib.hid hcc
          clear hic hcc hi hlt HV hC8
          go_wp2
          go_roundw
          case rel => exact ⟨i + 1, _, r, b2, rfl, by rw [HW1.out], by have := HI.out; omega, Lib.hid ⟨_, HQ2.out⟩, HK2, Lib.hid (fun h => bad_one HB.out HG.out HC.out h), Lib.hid (fun h => good_hi HG.out HC.out h HS.out (by have := HI.out; omega) HCC.out HC8.out)⟩
          case measure => rw [HW1.out]; have := HI.out; simp [intOf]; omega
      · have f1 : ((i : Int) == 9) = false := by simp; omega
        have f3 : decide ((0 : Int) < (i : Int)) = true := by simp; omega
        have f3n : decide (0 < i) = true := by simp; omega
        rcases (show C = 0 ∨ C = 1 ∨ (2 ≤ C ∧ C < 128) ∨ 128 ≤ C by omega) with hcc | hcc | hcc | hcc
        · have f2 : decide ((1 : Int) < (C : Int)) = false := by simp; omega
          have f2n : decide (1 < C) = false := by simp; omega
          have f4 : ((C : Int) == 0) = true := by simp; omega
          have f5 : decide ((C : Int) < 128) = true := by simp; omega
          have f5n : decide (C < 128) = true := by simp; omega
          have HI := Lib.hid hic
          have HCC := Lib.hid hcc
          clear hic hcc hi hlt HV hC8
          go_wp2
          go_ret
          exact ⟨_, r, true, rfl, ⟨_, rfl⟩, ⟨_, HQ2.out.setBad true⟩, HK2.out.trans (keepP_at _ _ _ _), fun _ => bad_cond HB.out HG.out HC.out (by have := HI.out; have := HCC.out; omega), fun h => absurd h (by simp)⟩
        · have f2 : decide ((1 : Int) < (C : Int)) = false := by simp; omega
          have f2n : decide (1 < C) = false := by simp; omega
          have f4 : ((C : Int) == 0) = false := by simp; omega
          have f5 : decide ((C : Int) < 128) = true := by simp; omega
          have f5n : decide (C < 128) = true := by simp; omega
          have HI := Lib.hid hic
          have HCC := Lib.hid hcc
          clear hic hcc hi hlt HV hC8
          go_wp2
          go_ret
          exact ⟨_, r, b2, rfl, ⟨_, rfl⟩, ⟨_, HQ2.out⟩, HK2.out, fun h => bad_one HB.out HG.out HC.out h, fun h => by obtain ⟨hb, n, e1, e2⟩ := good_lo HG.out HC.out h HS.out (by have := HCC.out; omega) (by have := HI.out; have := HCC.out; omega) (by have := HI.out; have := HCC.out; omega); exact ⟨hb, n, by first | exact congrArg (Value.int .u64) e1 | (refine congrArg (Value.int .u64) ?_; rw [← e1, show min S 64 = 7 * i by have := HS.out; have := HI.out; omega]), e2⟩⟩
        · have f2 : decide ((1 : Int) < (C : Int)) = true := by simp; omega
          have f2n : decide (1 < C) = true := by simp; omega
          have f4 : ((C : Int) == 0) = false := by simp; omega
          have f5 : decide ((C : Int) < 128) = true := by simp; omega
          have f5n : decide (C < 128) = true := by simp; omega
          have HI := Lib.hid hic
          have HCC := Lib.hid hcc
          clear hic hcc hi hlt HV hC8
          go_wp2
          go_ret
          exact ⟨_, r, b2, rfl, ⟨_, rfl⟩, ⟨_, HQ2.out⟩, HK2.out, fun h => bad_one HB.out HG.out HC.out h, fun h => by obtain ⟨hb, n, e1, e2⟩ := good_lo HG.out HC.out h HS.out (by have := HCC.out; omega) (by have := HI.out; have := HCC.out; omega) (by have := HI.out; have := HCC.out; omega); exact ⟨hb, n, by first | exact congrArg (Value.int .u64) e1 | (refine congrArg (Value.int .u64) ?_; rw [← e1, show min S 64 = 7 * i by have := HS.out; have := HI.out; omega]), e2⟩⟩
        · have f2 : decide ((1 : Int) < (C : Int)) = true := by simp; omega
          have f2n : decide (1 < C) = true := by simp; omega
          have f4 : ((C : Int) == 0) = false := by simp; omega
          have f5 : decide ((C : Int) < 128) = false := by simp; omega
          have f5n : decide (C < 128) = false := by simp; omega
          have HI := Lib.hid hic
          have HCC := Lib.hid hcc
          clear hic hcc hi hlt HV hC8
          go_wp2
          go_roundw
          case rel => exact ⟨i + 1, _, r, b2, rfl, by rw [HW1.out], by have := HI.out; omega, Lib.hid ⟨_, HQ2.out⟩, HK2, Lib.hid (fun h => bad_one HB.out HG.out HC.out h), Lib.hid (fun h => good_hi HG.out HC.out h HS.out (by have := HI.out; omega) HCC.out HC8.out)⟩
          case measure => rw [HW1.out]; have := HI.out; simp [intOf]; omega
      · have f1 : ((i : Int) == 9) = true := by simp; omega
        have f3 : decide ((0 : Int) < (i : Int)) = true := by simp; omega
        have f3n : decide (0 < i) = true := by simp; omega
        rcases (show C = 0 ∨ C = 1 ∨ (2 ≤ C ∧ C < 128) ∨ 128 ≤ C by omega) with hcc | hcc | hcc | hcc
        · have f2 : decide ((1 : Int) < (C : Int)) = false := by simp; omega
          have f2n : decide (1 < C) = false := by simp; omega
          have f4 : ((C : Int) == 0) = true := by simp; omega
          have f5 : decide ((C : Int) < 128) = true := by simp; omega
          have f5n : decide (C < 128) = true := by simp; omega
          have HI := Lib.hid hic
          have HCC := Lib.hid hcc
          clear hic hcc hi hlt HV hC8
          go_wp2
          go_ret
          exact ⟨_, r, true, rfl, ⟨_, rfl⟩, ⟨_, HQ2.out.setBad true⟩, HK2.out.trans (keepP_at _ _ _ _), fun _ => bad_cond HB.out HG.out HC.out (by have := HI.out; have := HCC.out; omega), fun h => absurd h (by simp)⟩
        · have f2 : decide ((1 : Int) < (C : Int)) = false := by simp; omega
          have f2n : decide (1 < C) = false := by simp; omega
          have f4 : ((C : Int) == 0) = false := by simp; omega
          have f5 : decide ((C : Int) < 128) = true := by simp; omega
          have f5n : decide (C < 128) = true := by simp; omega
          have HI := Lib.hid hic
          have HCC := Lib.hid hcc
          clear hic hcc hi hlt HV hC8
          go_wp2
          go_ret
          exact ⟨_, r, b2, rfl, ⟨_, rfl⟩, ⟨_, HQ2.out⟩, HK2.out, fun h => bad_one HB.out HG.out HC.out h, fun h => by obtain ⟨hb, n, e1, e2⟩ := good_lo HG.out HC.out h HS.out (by have := HCC.out; omega) (by have := HI.out; have := HCC.out; omega) (by have := HI.out; have := HCC.out; omega); exact ⟨hb, n, by first | exact congrArg (Value.int .u64) e1 | (refine congrArg (Value.int .u64) ?_; rw [← e1, show min S 64 = 7 * i by have := HS.out; have := HI.out; omega]), e2⟩⟩
        · have f2 : decide ((1 : Int) < (C : Int)) = true := by simp; omega
          have f2n : decide (1 < C) = true := by simp; omega
          have f4 : ((C : Int) == 0) = false := by simp; omega
          have f5 : decide ((C : Int) < 128) = true := by simp; omega
          have f5n : decide (C < 128) = true := by simp; omega
          have HI := Lib.hid hic
          have HCC := Lib.hid hcc
          clear hic hcc hi hlt HV hC8
          go_wp2
          go_ret
          exact ⟨_, r, true, rfl, ⟨_, rfl⟩, ⟨_, HQ2.out.setBad true⟩, HK2.out.trans (keepP_at _ _ _ _), fun _ => bad_cond HB.out HG.out HC.out (by have := HI.out; have := HCC.out; omega), fun h => absurd h (by simp)⟩
        · have f2 : decide ((1 : Int) < (C : Int)) = true := by simp; omega
          have f2n : decide (1 < C) = true := by simp; omega
          have f4 : ((C : Int) == 0) = false := by simp; omega
          have f5 : decide ((C : Int) < 128) = false := by simp; omega
          have f5n : decide (C < 128) = false := by simp; omega
          have HI := Lib.hid hic
          have HCC := Lib.hid hcc
          clear hic hcc hi hlt HV hC8
          go_wp2
          go_roundw
          case rel => exact ⟨i + 1, _, r, true, rfl, by rw [HW1.out], by have := HI.out; omega, Lib.hid ⟨_, HQ2.out.setBad true⟩, Lib.hid (HK2.out.trans (keepP_at _ _ _ _)), Lib.hid (fun _ => bad_cond HB.out HG.out HC.out (by have := HI.out; have := HCC.out; omega)), Lib.hid (fun h => absurd h (by simp))⟩
          case measure => rw [HW1.out]; have := HI.out; simp [intOf]; omega
    · obtain rfl : i = 10 := by omega
      obtain ⟨v, hq⟩ := HQ.out
      obtain ⟨a, c, rfl⟩ := hq.src.rd
      obtain ⟨c1, g1⟩ := cells_of_block hq.cells 1 (.bool b) rfl
      have HQ2 := Lib.hid hq
      clear hq
      go_wp2
      go_ret
      refine ⟨_, l, true, rfl, ⟨0, rfl⟩, ⟨_, HQ2.out.setBad true⟩, HK.out.trans (keepP_at _ _ _ _), fun _ => ?_, fun h => absurd h (by simp)⟩
      cases b with
      | true => exact HB.out rfl
      | false =>
        obtain ⟨_, acc, _, h9, _⟩ := HG.out rfl
        omega


theorem Qd.bads {α : Type} {w w' : World} {B p : Nat} {bad : Bool} {d : Option (α × Bs)} {ok : Value → Prop} {val : α → Value} {e : Ending} {x : Value} {r : Bs} (he : e = .returned x) (ho : ok x) (hq : QCur w' B p r true) (hk : KeepP p w w') (h : bad = true ∨ d = none) : Qd w B p bad d ok val e w' :=
  ⟨x, r, true, he, ho, hq, hk, fun _ => h, fun h => absurd h (by simp)⟩

set_option maxRecDepth 100000 in
set_option maxHeartbeats 2000000 in
theorem qsize_any (w : World) (B p : Nat) (bs : Bs) (bad : Bool) (h : QCur w B p bs bad) : Calls Try.prog 55 #[.pointer (some ⟨p, 0, none⟩)] w fun e w' => Qd w B p bad (sizeD bs) (fun x => ∃ n : Int, x = .int .i64 n) (fun n : Nat => .int .i64 (n : Int)) e w' := by
  have H := Lib.hid h
  clear h
  go_enter Try.func55, Try.ntmps55
  go_wp2_with fail
  refine (qnum_any _ B p bs bad H.out).mono ?_
  rintro e w2 ⟨_, r, b, rfl, ⟨x, rfl⟩, ⟨v, hq⟩, hk, hb, hg⟩
  obtain ⟨c1, g1⟩ := cells_of_block hq.cells 1 (.bool b) rfl
  have HQ := Lib.hid hq
  have HK := Lib.hid hk
  have HB := Lib.hid hb
  have HG := Lib.hid hg
  clear hq hk hb hg
  by_cases hx : 1125899906842624 < x
  · have d1 : decide (1125899906842624 < x) = true := by simpa using hx
    have HX := Lib.hid hx
    clear hx
    go_wp2
    go_ret
    refine Qd.bads rfl ⟨_, rfl⟩ ⟨_, HQ.out.setBad true⟩ (HK.out.trans (keepP_at _ _ _ _)) ?_
    cases b with
    | true => exact (HB.out rfl).imp id sizeD_num
    | false =>
      obtain ⟨_, n, e1, e2⟩ := HG.out rfl
      cases e1
      exact .inr (sizeD_no e2 (by have := HX.out; omega))
  · have d1 : decide (1125899906842624 < x) = false := by simpa using hx
    have HX := Lib.hid hx
    clear hx
    go_wp2
    go_ret
    cases b with
    | true => exact Qd.bads rfl ⟨_, rfl⟩ ⟨_, HQ.out⟩ HK.out ((HB.out rfl).imp id sizeD_num)
    | false =>
      obtain ⟨hb, n, e1, e2⟩ := HG.out rfl
      cases e1
      refine ⟨_, r, false, rfl, ⟨_, rfl⟩, ⟨_, HQ.out⟩, HK.out, fun h => absurd h (by simp), fun _ => ⟨hb, n, ?_, sizeD_of e2 (by have := HX.out; omega)⟩⟩
      have hw : wrap64 (n : Int) = n := by have := HX.out; unfold wrap64; omega
      exact congrArg (Value.int .i64) hw

def lim : Nat := 18446744073709551616
theorem lim_le : 40 ≤ lim := by unfold lim; omega

set_option maxRecDepth 100000 in
set_option maxHeartbeats 2000000 in
theorem qtext_any (w : World) (B p : Nat) (bs : Bs) (bad : Bool) (h : QCur w B p bs bad) : Calls Try.prog 54 #[.pointer (some ⟨p, 0, none⟩)] w fun e w' => Qd w B p bad (textD lim bs) (fun x => ∃ s : ByteArray, x = .string s ∧ s.size ≤ maxLen) (fun s : ByteArray => .string s) e w' := by
  have H := Lib.hid h
  clear h
  go_enter Try.func54, Try.ntmps54
  go_wp2_with fail
  refine (qnum_any _ B p bs bad H.out).mono ?_
  rintro e w2 ⟨_, r, b, rfl, ⟨x, rfl⟩, ⟨v, hq⟩, hk, hb, hg⟩
  obtain ⟨c1, g1⟩ := cells_of_block hq.cells 1 (.bool b) rfl
  obtain ⟨c0, g0⟩ := cells_of_block hq.cells 0 v rfl
  have HQ := Lib.hid hq
  have HK := Lib.hid hk
  have HB := Lib.hid hb
  have HG := Lib.hid hg
  clear hk hb hg
  cases b with
  | true =>
    clear hq
    go_wp2
    go_ret
    exact Qd.bads rfl ⟨⟨#[]⟩, rfl, by decide⟩ ⟨_, HQ.out.setBad true⟩ (HK.out.trans (keepP_at _ _ _ _)) ((HB.out (by first | rfl | trivial)).imp id textD_num)
  | false =>
    obtain ⟨hb, n, e1, e2⟩ := HG.out rfl
    cases e1
    have HN := Lib.hid e2
    have HBD := Lib.hid hb
    have hn64 := (numD_some _ _ _ _ e2).2.2.1
    obtain ⟨L, hL⟩ : ∃ L, r.length = L := ⟨_, rfl⟩
    have HL := Lib.hid hL
    clear e2 hb
    have hsrc : (∃ bk o c, v = .slice (some ⟨bk, o, none⟩) r.length c ∧ r.length ≤ c ∧ c ≤ maxLen ∧ (∀ k (hk : k < r.length), w2.cell? ⟨bk, o + k, none⟩ = some (.int .u8 (r[k].toNat : Int))) ∧ bk < B) ∨ (r = [] ∧ ∃ a c, v = .slice a 0 c ∧ c ≤ maxLen) := by
      rcases hq.src with ⟨⟨rfl, rfl⟩ | ⟨bk, o, c, rfl, h1, h2, h3⟩, hlo⟩ | h
      · exact .inr ⟨rfl, none, 0, rfl, Nat.zero_le _⟩
      · exact .inl ⟨bk, o, c, rfl, h1, h2, h3, hlo bk rfl⟩
      · exact .inr h
    rcases hsrc with ⟨bk, o, c, rfl, h1, h2, h3, hlo⟩ | ⟨hr, a, c, rfl, hcm⟩
    · by_cases hgt : L < n
      · rw [hL] at c0 h1
        have hwl : (L : Int) % 18446744073709551616 = L := by unfold maxLen at h2; omega
        have d1 : decide ((L : Int) < (n : Int)) = true := by simp; omega
        have d1n : decide (L < n) = true := by simp; omega
        have HGT := Lib.hid hgt
        clear hgt hq h3 hlo hL
        go_wp2
        go_ret
        exact Qd.bads rfl ⟨⟨#[]⟩, rfl, by decide⟩ ⟨_, HQ.out.setBad true⟩ (HK.out.trans (keepP_at _ _ _ _)) (.inr (textD_no HN.out (fun h => by have := h.2; rw [HL.out] at this; have := HGT.out; omega)))
      · have hnl : n ≤ L := by omega
        have etl : (r.take n).length = n := by simp; omega
        have edl : (r.drop n).length = L - n := by simp; omega
        have hT : ∀ c', n ≤ c' → c' ≤ maxLen → IsB w2 (.slice (some ⟨bk, o, none⟩) n c') (r.take n) := fun c' hc hm => .inr ⟨bk, o, c', by rw [etl], by omega, hm, fun k hk => by rw [List.getElem_take]; exact h3 k (by omega)⟩
        have HT := Lib.hid hT
        have HD : ∀ c', L - n ≤ c' → c' ≤ maxLen → SrcB w2 B (.slice (some ⟨bk, o + n, none⟩) (L - n) c') (r.drop n) := fun c' hc hm => .inl ⟨.inr ⟨bk, o + n, c', by rw [edl], by omega, hm, fun k hk => by rw [List.getElem_drop, Nat.add_assoc]; exact h3 (n + k) (by omega)⟩, fun b' e => by simp [blk] at e; subst e; exact hlo⟩
        have HD := Lib.hid HD
        rw [hL] at c0 h1
        have hcv := run_text (hT c (by omega) h2)
        have hwl : (L : Int) % 18446744073709551616 = L := by unfold maxLen at h2; omega
        have d1 : decide ((L : Int) < (n : Int)) = false := by simp; omega
        have d1n : decide (L < n) = false := by simp; omega
        have hnc : n ≤ c := by omega
        have HYES := Lib.hid (textD_of HN.out (L := lim) (by unfold lim; simp at hn64; omega) (by rw [hL]; exact hnl))
        have HSZ := Lib.hid (show (textOf (r.take n)).size ≤ maxLen by rw [textOf_size, etl]; omega)
        clear hgt hq h3 hlo hL hT etl edl hn64
        go_wp2
        · subst h
          have e2 : r.drop c = [] := by rw [List.drop_eq_nil_of_le]; rw [HL.out]; omega
          go_ret
          exact ⟨_, r.drop c, false, rfl, ⟨textOf (r.take c), rfl, HSZ.out⟩, ⟨_, HQ.out.setRow (.inr ⟨e2, some ⟨bk, o, none⟩, 0, by rw [show L - c = 0 by omega], Nat.zero_le _⟩)⟩, HK.out.trans (keepP_at _ _ _ _), fun h => absurd h (by simp), fun _ => ⟨HBD.out, textOf (r.take c), rfl, HYES.out⟩⟩
        · go_ret
          exact ⟨_, r.drop n, false, rfl, ⟨textOf (r.take n), rfl, HSZ.out⟩, ⟨_, HQ.out.setRow (HD.out (c - n) (by omega) (by omega))⟩, HK.out.trans (keepP_at _ _ _ _), fun h => absurd h (by simp), fun _ => ⟨HBD.out, textOf (r.take n), rfl, HYES.out⟩⟩
    · subst hr
      obtain rfl : L = 0 := by simpa using hL.symm
      by_cases hgt : 0 < n
      · have d1 : decide ((0 : Int) < (n : Int)) = true := by simp; omega
        have d1n : decide (0 < n) = true := by simp; omega
        have HGT := Lib.hid hgt
        clear hgt hq hL
        go_wp2
        go_ret
        exact Qd.bads rfl ⟨⟨#[]⟩, rfl, by decide⟩ ⟨_, HQ.out.setBad true⟩ (HK.out.trans (keepP_at _ _ _ _)) (.inr (textD_no HN.out (fun h => by have := h.2; have := HGT.out; simp at *; omega)))
      · obtain rfl : n = 0 := by omega
        have hcv := fun a c => run_text0 w2 a c
        have HYES := Lib.hid (textD_of HN.out (L := lim) (Nat.zero_le _) (Nat.zero_le _))
        clear hgt hq hL
        go_wp2
        all_goals go_ret
        all_goals exact ⟨_, [], false, rfl, ⟨⟨#[]⟩, rfl, by decide⟩, ⟨_, HQ.out.setRow (.inr ⟨rfl, _, _, rfl, by omega⟩)⟩, HK.out.trans (keepP_at _ _ _ _), fun h => absurd h (by simp), fun _ => ⟨HBD.out, ⟨#[]⟩, rfl, HYES.out⟩⟩

end Go.Proofs.Ytgplolfkfhhddaa
