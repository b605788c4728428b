/- Layer 4 (codec): the document's small writers. -/
import Derived.Test.YtgplolfkfhhddaaW1
namespace Go.Proofs.Ytgplolfkfhhddaa
open Go.RowKit
set_option linter.unusedVariables false
set_option linter.unusedSimpArgs false

/-- new bytes -/
def RB (w w' : World) (e : Ending) (bs : Bs) : Prop := ∃ v, e = .returned v ∧ OwnB w' w.heap.size v bs ∧ Below w.heap.size w w'

theorem u8_ofNat (n : Nat) : u8 (n : Int) = UInt8.ofNat n := by simp [u8]
theorem OwnB.none (w : World) (B : Nat) : OwnB w B (.slice none 0 0) [] := ⟨rfl, Or.inl ⟨rfl, rfl⟩⟩

/-- bytes and the error, of what is right or not -/
def BytesR (w w' : World) (e : Ending) (ok : Bool) (bs : Bs) : Prop := ∃ v, e = .returned (.tuple #[v, .int .i64 (if ok then 0 else 2)]) ∧ OwnB w' w.heap.size v (if ok then bs else []) ∧ Below w.heap.size w w'
theorem BytesR.no {w w' : World} {ok : Bool} {bs : Bs} (h : ok = false) (hb : Below w.heap.size w w') : BytesR w w' (.returned (.tuple #[.slice none 0 0, .int .i64 2])) ok bs := by
  subst h; exact ⟨_, rfl, OwnB.none _ _, hb⟩
theorem BytesR.yes {w w' : World} {ok : Bool} {bs : Bs} {B : Nat} {v : Value} (h : ok = true) (ho : OwnB w' B v bs) (hB : w.heap.size ≤ B) (hb : Below w.heap.size w w') : BytesR w w' (.returned (.tuple #[v, .int .i64 0])) ok bs := by
  subst h; exact ⟨v, rfl, OwnB.mono ho hB, hb⟩

abbrev to8 (k : Int) : UInt8 := u8 k
theorem orb (m : Nat) : bits .or .u8 ((m : Int) % 128) 128 = ((m % 128 + 128 : Nat) : Int) := by
  have e : ∀ n : Fin 128, bits .or .u8 ((n.val : Nat) : Int) 128 = ((n.val + 128 : Nat) : Int) := by decide +kernel
  have h := e ⟨m % 128, by omega⟩
  rw [show ((m : Int) % 128) = ((m % 128 : Nat) : Int) by omega, h]
theorem orb_rng (m : Nat) : 0 ≤ bits .or .u8 ((m : Int) % 128) 128 ∧ bits .or .u8 ((m : Int) % 128) 128 < 256 := by rw [orb]; omega
theorem to8_orb (m : Nat) : to8 (bits .or .u8 ((m : Int) % 128) 128) = UInt8.ofNat (m % 128 + 128) := by rw [orb]; exact u8_ofNat _

set_option maxHeartbeats 1000000 in
theorem rnumber_any (n : Nat) (ni : Int) (hni : ni = (n : Int)) (hn : n < 18446744073709551616) (w : World) :
    Calls Try.prog 32 #[.int .u64 ni] w fun e w' => RB w w' e (numE n) := by
  subst hni
  have hE := numE_64 hn
  go_enter Try.func32, Try.ntmps32
  go_wp2
  go_loopw [0, 3] (fun s0 s3 wr => ∃ (m : Nat) (pre : Bs), s0 = .int .u64 (m : Int) ∧ m < 18446744073709551616 ∧ Hid (numE n = pre ++ numE m) ∧ Hid (OwnB wr w.heap.size s3 pre) ∧ Hid (Below w.heap.size w wr)) (fun s0 _ _ => (intOf s0).toNat)
  case atStart => exact ⟨n, [], rfl, hn, Lib.hid rfl, Lib.hid (OwnB.none _ _), Lib.hid (Below.refl _ _)⟩
  case round =>
    obtain ⟨m, pre, rfl, hm, hpre, HO, HB⟩ := hrel
    have hpl : pre.length ≤ 10 := by have := congrArg List.length hpre.out; rw [List.length_append] at this; omega
    obtain ⟨a, k, rfl⟩ := OwnB.lv HO.out
    have hBs := HB.out.size
    by_cases hs : 128 ≤ m
    · have e0 : decide ((128 : Int) ≤ (m : Int)) = true := by simp; omega
      go_wp2_with (at_builtin; refine wpList_app_bytes rfl _ _ rfl w.heap.size (.slice a pre.length k) pre rfl (HO.out.alloc _) _ [to8 (bits .or .u8 ((m : Int) % 128) 128)] rfl (OwnB.isB (OwnB.lit [to8 (bits .or .u8 ((m : Int) % 128) 128)] (Nat.le_refl _) (by simp) _ (cells_one (orb_rng m)))) (by simp; omega) (by simp; omega) ?_)
      intro v2 w2 hown hgr
      have hb2 := (HB.out.alloc hBs (.cells #[.int .u8 (bits .or .u8 ((m : Int) % 128) 128)] 5)).grown hgr (by simp; omega) (fun j e => (HO.out.tb e).1)
      have HOW := Lib.hid hown
      have HB2 := Lib.hid hb2
      clear hown hgr hb2
      go_wp2
      go_roundw
      case rel => exact ⟨m / 128, pre ++ [to8 (bits .or .u8 ((m : Int) % 128) 128)], by go_num, by omega, Lib.hid (by rw [hpre.out, numE_great (n := m) (by omega), List.append_assoc, to8_orb]; rfl), HOW, HB2⟩
      case measure => simp [intOf]; omega
    · have e0 : decide ((128 : Int) ≤ (m : Int)) = false := by simp; omega
      go_wp2_with (at_builtin; refine wpList_app_bytes rfl _ _ rfl w.heap.size (.slice a pre.length k) pre rfl (HO.out.alloc _) _ [to8 (m : Int)] rfl (OwnB.isB (OwnB.lit [to8 (m : Int)] (Nat.le_refl _) (by simp) _ (cells_one (by omega)))) (by simp; omega) (by simp; omega) ?_)
      intro v2 w2 hown hgr
      have hb2 := (HB.out.alloc hBs (.cells #[.int .u8 (m : Int)] 5)).grown hgr (by simp; omega) (fun j e => (HO.out.tb e).1)
      have HOW := Lib.hid hown
      have HB2 := Lib.hid hb2
      clear hown hgr hb2
      go_wp2
      go_ret
      exact ⟨v2, rfl, by rw [hpre.out, numE_small (n := m) (by omega), ← u8_lo (by omega)]; exact HOW.out, HB2.out⟩

set_option maxHeartbeats 1000000 in
theorem rtext_any (s : ByteArray) (hs : s.size ≤ 1000000) (w : World) :
    Calls Try.prog 31 #[.string s] w fun e w' => RB w w' e (textE s) := by
  go_enter Try.func31, Try.ntmps31
  have hns := numE_64 (n := s.size) (by omega)
  go_wp2_with (first
    | (go_at_call 32; refine (rnumber_any s.size _ (by go_num) (by omega) _).mono ?_; rintro e w1 ⟨v, rfl, hown, hb⟩; obtain ⟨a, k, rfl⟩ := OwnB.lv hown; have HO := Lib.hid hown; have HB := Lib.hid hb; have hBs := hb.size; clear hown hb)
    | (at_builtin; refine wpList_app_text rfl _ _ rfl w.heap.size (.slice a (numE s.size).length k) (numE s.size) rfl HO.out s rfl (by omega) hBs ?_))
  intro v2 w2 hown hgr
  have hb2 := HB.out.grown hgr hBs (fun j e => (HO.out.tb e).1)
  have HOW := Lib.hid hown
  have HB2 := Lib.hid hb2
  clear hown hgr hb2
  go_wp2
  go_ret
  exact ⟨v2, rfl, HOW.out, HB2.out⟩

theorem rbit_any (g : Bool) (k : Int) (w : World) :
    Calls Try.prog 33 #[.bool g, .int .u8 k] w fun e w' => e = .returned (.int .u8 (if g then k else 0)) ∧ w' = w := by
  cases g <;> (go_enter Try.func33, Try.ntmps33; go_wp2; go_ret; exact ⟨rfl, rfl⟩)

end Go.Proofs.Ytgplolfkfhhddaa
