/- Layer 4 (codec): the program's reader: texts, sizes, the end. -/
import Derived.Test.YtgplolfkfhhddaaR2
namespace Go.Proofs.Ytgplolfkfhhddaa
open Go.RowKit
set_option linter.unusedVariables false
set_option linter.unusedSimpArgs false

variable {B : Nat}
theorem must_any (b : Bool) (w : World) : Calls Try.prog 41 #[.bool b] w fun e w' => w' = w ∧ (b = true → e = .returned (.tuple #[])) ∧ (b = false → e = .panicked bad) := by
  cases b
  · exact (must_bad w).mono fun e w' h => ⟨h.2, fun hx => absurd hx (by simp), fun _ => h.1⟩
  · exact (must_ok w).mono fun e w' h => ⟨h.2, fun _ => h.1, fun hx => absurd hx (by simp)⟩

theorem textD_of {L : Nat} {bs : Bs} {n : Nat} {r : Bs} (h : numD 0 bs = some (n, r)) (hn : n ≤ L) (hr : n ≤ r.length) : textD L bs = some (textOf (r.take n), r.drop n) := by
  unfold textD; rw [h]; simp [hn, hr]
theorem textD_no {L : Nat} {bs : Bs} {n : Nat} {r : Bs} (h : numD 0 bs = some (n, r)) (hn : ¬ (n ≤ L ∧ n ≤ r.length)) : textD L bs = none := by
  unfold textD; rw [h]; simp only [if_neg hn]
theorem textD_num {L : Nat} {bs : Bs} (h : numD 0 bs = none) : textD L bs = none := by unfold textD; rw [h]

set_option maxHeartbeats 1000000 in
theorem rdtext_any (w : World) (p : Nat) (bs : Bs) (h : RCur w B p bs) : Calls Try.prog 52 #[.pointer (some ⟨p, 0, none⟩)] w fun e w' => Rd w B p (fun s : ByteArray => .string s) (textD 40 bs) e w' := by
  have H := Lib.hid h
  clear h
  cases hd : numD 0 bs with
  | none =>
    have HD := Lib.hid hd
    clear hd
    go_enter Try.func52, Try.ntmps52
    go_wp2_with (go_at_call 39; refine (rdnum_any _ p _ H.out).mono ?_; intro e w2 hx; obtain ⟨rfl, hk⟩ := hx.no HD.out)
    exact ⟨rfl, Rd.mkNo (textD_num HD.out) ⟨rfl, hk⟩⟩
  | some x =>
    obtain ⟨n, r⟩ := x
    have HD := Lib.hid hd
    clear hd
    by_cases h1 : n ≤ 40
    · have d1 : decide ((n : Int) ≤ 40) = true := by simp; omega
      have d1n : decide (n ≤ 40) = true := by simp; omega
      have H1 := Lib.hid h1
      have hwr : wrap64 (n : Int) = n := by unfold wrap64; omega
      clear h1
      by_cases h2 : n ≤ r.length
      · go_enter Try.func52, Try.ntmps52
        go_wp2_with (first
          | (go_at_call 39; refine (rdnum_any _ p _ H.out).mono ?_; intro e w2 hx; obtain ⟨rfl, hc, hk⟩ := hx.yes HD.out; have HC := Lib.hid hc; have HK := Lib.hid hk; clear hx hc hk)
          | (go_at_call 41; refine (must_ok _).mono ?_; rintro e w3 ⟨rfl, hw⟩; have hw' := hw.symm; subst hw'; clear hw)
          | (go_at_call 56; refine (take_ok n _ p r HC.out h2).mono ?_; rintro e w3 ⟨v, rfl, hrow, hc, hk⟩; have hcv := hrow.text; have HC3 := Lib.hid hc; have HK3 := Lib.hid (HK.out.trans hk); clear hc hk hrow))
        go_ret
        exact Rd.mkYes (textD_of HD.out H1.out h2) ⟨rfl, HC3.out, HK3.out⟩
      · go_enter Try.func52, Try.ntmps52
        go_wp2_with (first
          | (go_at_call 39; refine (rdnum_any _ p _ H.out).mono ?_; intro e w2 hx; obtain ⟨rfl, hc, hk⟩ := hx.yes HD.out; have HC := Lib.hid hc; have HK := Lib.hid hk; clear hx hc hk)
          | (go_at_call 41; refine (must_ok _).mono ?_; rintro e w3 ⟨rfl, hw⟩; have hw' := hw.symm; subst hw'; clear hw)
          | (go_at_call 56; refine (take_no n _ p r HC.out (by omega)).mono ?_; rintro e w3 ⟨rfl, hw⟩; have hw' := hw.symm; subst hw'; clear hw))
        exact ⟨rfl, Rd.mkNo (textD_no HD.out (fun h => h2 h.2)) ⟨rfl, HK.out⟩⟩
    · have d1 : decide ((n : Int) ≤ 40) = false := by simp; omega
      have d1n : decide (n ≤ 40) = false := by simp; omega
      have H1 := Lib.hid h1
      clear h1
      go_enter Try.func52, Try.ntmps52
      go_wp2_with (first
        | (go_at_call 39; refine (rdnum_any _ p _ H.out).mono ?_; intro e w2 hx; obtain ⟨rfl, hc, hk⟩ := hx.yes HD.out; have HC := Lib.hid hc; have HK := Lib.hid hk; clear hx hc hk)
        | (go_at_call 41; refine (must_bad _).mono ?_; rintro e w3 ⟨rfl, hw⟩; have hw' := hw.symm; subst hw'; clear hw))
      exact ⟨rfl, Rd.mkNo (textD_no HD.out (fun h => H1.out h.1)) ⟨rfl, HK.out⟩⟩

theorem sizeD_of {bs : Bs} {n : Nat} {r : Bs} (h : numD 0 bs = some (n, r)) (hn : n ≤ 1125899906842624) : sizeD bs = some (n, r) := by
  unfold sizeD; rw [h]; simp [hn]
theorem sizeD_no {bs : Bs} {n : Nat} {r : Bs} (h : numD 0 bs = some (n, r)) (hn : ¬ n ≤ 1125899906842624) : sizeD bs = none := by
  unfold sizeD; rw [h]; simp only [if_neg hn]
theorem sizeD_num {bs : Bs} (h : numD 0 bs = none) : sizeD bs = none := by unfold sizeD; rw [h]

set_option maxHeartbeats 1000000 in
theorem rdsize_any (w : World) (p : Nat) (bs : Bs) (h : RCur w B p bs) : Calls Try.prog 53 #[.pointer (some ⟨p, 0, none⟩)] w fun e w' => Rd w B p (fun n : Nat => .int .i64 (n : Int)) (sizeD bs) e w' := by
  have H := Lib.hid h
  clear h
  cases hd : numD 0 bs with
  | none =>
    have HD := Lib.hid hd
    clear hd
    go_enter Try.func53, Try.ntmps53
    go_wp2_with (go_at_call 39; refine (rdnum_any _ p _ H.out).mono ?_; intro e w2 hx; obtain ⟨rfl, hk⟩ := hx.no HD.out)
    exact ⟨rfl, Rd.mkNo (sizeD_num HD.out) ⟨rfl, hk⟩⟩
  | some x =>
    obtain ⟨n, r⟩ := x
    have HD := Lib.hid hd
    clear hd
    by_cases h1 : n ≤ 1125899906842624
    · have d1 : decide ((n : Int) ≤ 1125899906842624) = true := by simp; omega
      have d1n : decide (n ≤ 1125899906842624) = true := by simp; omega
      have H1 := Lib.hid h1
      have hwr : wrap64 (n : Int) = n := by unfold wrap64; omega
      clear h1
      go_enter Try.func53, Try.ntmps53
      go_wp2_with (first
        | (go_at_call 39; refine (rdnum_any _ p _ H.out).mono ?_; intro e w2 hx; obtain ⟨rfl, hc, hk⟩ := hx.yes HD.out; have HC := Lib.hid hc; have HK := Lib.hid hk; clear hx hc hk)
        | (go_at_call 41; refine (must_ok _).mono ?_; rintro e w3 ⟨rfl, hw⟩; have hw' := hw.symm; subst hw'; clear hw))
      go_ret
      exact Rd.mkYes (sizeD_of HD.out H1.out) ⟨by rw [hwr]; rfl, HC.out, HK.out⟩
    · have d1 : decide ((n : Int) ≤ 1125899906842624) = false := by simp; omega
      have d1n : decide (n ≤ 1125899906842624) = false := by simp; omega
      have H1 := Lib.hid h1
      clear h1
      go_enter Try.func53, Try.ntmps53
      go_wp2_with (first
        | (go_at_call 39; refine (rdnum_any _ p _ H.out).mono ?_; intro e w2 hx; obtain ⟨rfl, hc, hk⟩ := hx.yes HD.out; have HC := Lib.hid hc; have HK := Lib.hid hk; clear hx hc hk)
        | (go_at_call 41; refine (must_bad _).mono ?_; rintro e w3 ⟨rfl, hw⟩; have hw' := hw.symm; subst hw'; clear hw))
      exact ⟨rfl, Rd.mkNo (sizeD_no HD.out H1.out) ⟨rfl, HK.out⟩⟩

theorem RCur.cell {w : World} {p : Nat} {bs : Bs} (h : RCur w B p bs) : ∃ a c, w.heap[p]? = some (.cells #[.slice a bs.length c] 55 (0, 0)) := by
  obtain ⟨v, h⟩ := h
  obtain ⟨a, c, rfl⟩ := h.src.rd
  exact ⟨a, c, h.cells⟩
theorem rdend_any (w : World) (p : Nat) (bs : Bs) (h : ∃ a c, w.heap[p]? = some (.cells #[.slice a bs.length c] 55 (0, 0))) : Calls Try.prog 25 #[.pointer (some ⟨p, 0, none⟩)] w fun e w' => w' = w ∧ (bs = [] → e = .returned (.tuple #[])) ∧ (bs ≠ [] → e = .panicked bad) := by
  obtain ⟨a, c, h⟩ := h
  obtain ⟨c0, f0⟩ := cells_of_block h 0 (.slice a bs.length c) rfl
  clear h
  cases bs with
  | nil =>
    go_enter Try.func25, Try.ntmps25
    go_wp2_with (go_at_call 41; refine (must_ok _).mono ?_; rintro e w2 ⟨rfl, rfl⟩)
    exact bodyPost_end (results_none rfl _ _ _) rfl ⟨rfl, fun _ => rfl, fun h => absurd rfl h⟩
  | cons x t =>
    have d1 : (((x :: t).length : Int) == 0) = false := by simp; omega
    obtain ⟨L, hL⟩ : ∃ L, (x :: t).length = L := ⟨_, rfl⟩
    rw [hL] at c0 d1
    clear hL
    go_enter Try.func25, Try.ntmps25
    go_wp2_with (go_at_call 41; refine (must_bad _).mono ?_; rintro e w2 ⟨rfl, rfl⟩)
    exact ⟨rfl, rfl, fun h => absurd h (by simp), fun _ => rfl⟩

end Go.Proofs.Ytgplolfkfhhddaa
