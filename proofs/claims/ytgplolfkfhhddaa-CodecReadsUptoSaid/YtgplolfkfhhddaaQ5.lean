/- Layer 4 (codec): the document's reader: an object. -/
import Derived.Test.YtgplolfkfhhddaaQ4
import Derived.Test.YtgplolfkfhhddaaF26
namespace Go.Proofs.Ytgplolfkfhhddaa
open Go.RowKit
set_option linter.unusedVariables false
set_option linter.unusedSimpArgs false

def BadO (bad : Bool) (bs : Bs) : Prop := bad = true ∨ fieldsD lim bs = none
theorem byte_back {C : Nat} {y : UInt8} (h : Value.int .u8 (C : Int) = .int .u8 (y.toNat : Int)) : y = UInt8.ofNat C ∧ C = y.toNat := by
  have e : (C : Int) = (y.toNat : Int) := by cases h; rfl
  have e2 : C = y.toNat := by omega
  exact ⟨by rw [e2]; simp, e2⟩
theorem num_back {k : IntKind} {x : Int} {n : Nat} (h : Value.int k x = .int k (n : Int)) : n = x.toNat ∧ x = ((x.toNat : Nat) : Int) := by
  have e : x = (n : Int) := by cases h; rfl
  omega
theorem fits_of {o : Obj} (h0 : o.name.size ≤ maxLen) (h1 : o.cls.size ≤ maxLen) (h2 : o.zone.size ≤ maxLen) (h3 : o.node.size ≤ maxLen) (h4 : o.claim.size ≤ maxLen) (h5 : o.volume.size ≤ maxLen) (h6 : o.source.size ≤ maxLen) : o.Fits :=
  ⟨h0, fun s hs => by simp [textsO] at hs; rcases hs with rfl | rfl | rfl | rfl | rfl | rfl <;> assumption⟩
theorem text_back {s t : ByteArray} (h : Value.string s = .string t) : t = s := by cases h; rfl

set_option maxRecDepth 100000 in
set_option maxHeartbeats 8000000 in
theorem qobj_any (w : World) (B p : Nat) (bs : Bs) (bad : Bool) (h : QCur w B p bs bad) : Calls Try.prog 37 #[.pointer (some ⟨p, 0, none⟩)] w fun e w' => Qd w B p bad (objD lim bs) (fun x => ∃ o : Obj, x = .agg (cellsO o)) (fun o : Obj => .agg (cellsO o)) e w' := by
  have hO := OQ.start w B p bs bad h
  rw [objZ_cells] at hO
  simp only [objZ, noText] at hO
  have HO := Lib.hid hO
  have hS := HO.out.cells
  have hFz := HO.out.free
  have HG := Lib.hid (show bad = false → bad = false ∧ fieldsD lim bs = G0 lim bs from fun h => ⟨h, fieldsD_G lim bs⟩)
  have HB := Lib.hid (show bad = true → BadO bad bs from fun h => .inl h)
  clear h hO
  go_enter Try.func37, Try.ntmps37
  go_wp2_with fail
  refine (qbyte_any _ B p _ _ (OQ.cur (w0 := w) (q := w.heap.size) (by with_reducible repeat' (first | exact HO.out | apply OQ.s0 | apply OQ.s1 | apply OQ.s2 | apply OQ.s3 | apply OQ.s4 | apply OQ.s5 | apply OQ.s6 | apply OQ.s7 | apply OQ.s8 | apply OQ.s9 | apply OQ.s10 | apply OQ.s11 | apply OQ.s12 | apply OQ.s13 | apply OQ.s14 | apply OQ.s15 | apply OQ.s16 | apply OQ.s17 | apply OQ.s18 | apply OQ.s19)))).mono ?_
  rintro e w2 ⟨_, r, b0, rfl, ⟨C0, rfl, hC0⟩, hc, hk, hb, hg⟩
  have hO := OQ.step hk hc (by with_reducible repeat' (first | exact HO.out | apply OQ.s0 | apply OQ.s1 | apply OQ.s2 | apply OQ.s3 | apply OQ.s4 | apply OQ.s5 | apply OQ.s6 | apply OQ.s7 | apply OQ.s8 | apply OQ.s9 | apply OQ.s10 | apply OQ.s11 | apply OQ.s12 | apply OQ.s13 | apply OQ.s14 | apply OQ.s15 | apply OQ.s16 | apply OQ.s17 | apply OQ.s18 | apply OQ.s19))
  clear hS hFz
  have HO := Lib.hid hO
  have hS := HO.out.cells
  have hFz := HO.out.free
  have hG : b0 = false → bad = false ∧ fieldsD lim bs = G1 lim (UInt8.ofNat C0) r := fun h => by
    obtain ⟨h1, y, he, hd⟩ := hg h
    obtain ⟨h2, h3⟩ := HG.out h1
    obtain ⟨rfl, _⟩ := byte_back he
    exact ⟨h2, h3.trans (G0_some hd)⟩
  have hB : b0 = true → BadO bad bs := fun h => by
    rcases hb h with h1 | h1
    · exact HB.out h1
    · by_cases hp : bad = true
      · exact HB.out hp
      · obtain ⟨_, h3⟩ := HG.out (by simpa using hp)
        exact .inr (h3.trans (G0_none h1))
  have HM0 := Lib.hid (show b0 = false → bad = false from fun h => (hg h).1)
  have HX0 := Lib.hid (show b0 = false → C0 = (UInt8.ofNat C0).toNat from fun h => by obtain ⟨_, y, he, _⟩ := hg h; obtain ⟨e1, e2⟩ := byte_back he; rw [← e1]; exact e2)
  have HG := Lib.hid hG
  have HB := Lib.hid hB
  clear hO hc hk hb hg hG hB
  go_wp2_with fail
  refine (qtext_any _ B p _ _ (OQ.cur (w0 := w) (q := w.heap.size) (by with_reducible repeat' (first | exact HO.out | apply OQ.s0 | apply OQ.s1 | apply OQ.s2 | apply OQ.s3 | apply OQ.s4 | apply OQ.s5 | apply OQ.s6 | apply OQ.s7 | apply OQ.s8 | apply OQ.s9 | apply OQ.s10 | apply OQ.s11 | apply OQ.s12 | apply OQ.s13 | apply OQ.s14 | apply OQ.s15 | apply OQ.s16 | apply OQ.s17 | apply OQ.s18 | apply OQ.s19)))).mono ?_
  rintro e w2 ⟨_, r, b1, rfl, ⟨s1, rfl, hC1⟩, hc, hk, hb, hg⟩
  have hO := OQ.step hk hc (by with_reducible repeat' (first | exact HO.out | apply OQ.s0 | apply OQ.s1 | apply OQ.s2 | apply OQ.s3 | apply OQ.s4 | apply OQ.s5 | apply OQ.s6 | apply OQ.s7 | apply OQ.s8 | apply OQ.s9 | apply OQ.s10 | apply OQ.s11 | apply OQ.s12 | apply OQ.s13 | apply OQ.s14 | apply OQ.s15 | apply OQ.s16 | apply OQ.s17 | apply OQ.s18 | apply OQ.s19))
  clear hS hFz
  have HO := Lib.hid hO
  have hS := HO.out.cells
  have hFz := HO.out.free
  have hG : b1 = false → bad = false ∧ fieldsD lim bs = G2 lim (UInt8.ofNat C0) s1 r := fun h => by
    obtain ⟨h1, y, he, hd⟩ := hg h
    obtain ⟨h2, h3⟩ := HG.out h1
    obtain rfl := text_back he
    exact ⟨h2, h3.trans (G1_some hd)⟩
  have hB : b1 = true → BadO bad bs := fun h => by
    rcases hb h with h1 | h1
    · exact HB.out h1
    · by_cases hp : b0 = true
      · exact HB.out hp
      · obtain ⟨_, h3⟩ := HG.out (by simpa using hp)
        exact .inr (h3.trans (G1_none h1))
  have HM1 := Lib.hid (show b1 = false → b0 = false from fun h => (hg h).1)
  have HX1 := Lib.hid hC1
  clear hC1
  have HG := Lib.hid hG
  have HB := Lib.hid hB
  clear hO hc hk hb hg hG hB
  go_wp2_with fail
  refine (qnum_any _ B p _ _ (OQ.cur (w0 := w) (q := w.heap.size) (by with_reducible repeat' (first | exact HO.out | apply OQ.s0 | apply OQ.s1 | apply OQ.s2 | apply OQ.s3 | apply OQ.s4 | apply OQ.s5 | apply OQ.s6 | apply OQ.s7 | apply OQ.s8 | apply OQ.s9 | apply OQ.s10 | apply OQ.s11 | apply OQ.s12 | apply OQ.s13 | apply OQ.s14 | apply OQ.s15 | apply OQ.s16 | apply OQ.s17 | apply OQ.s18 | apply OQ.s19)))).mono ?_
  rintro e w2 ⟨_, r, b2, rfl, ⟨x2, rfl⟩, hc, hk, hb, hg⟩
  have hO := OQ.step hk hc (by with_reducible repeat' (first | exact HO.out | apply OQ.s0 | apply OQ.s1 | apply OQ.s2 | apply OQ.s3 | apply OQ.s4 | apply OQ.s5 | apply OQ.s6 | apply OQ.s7 | apply OQ.s8 | apply OQ.s9 | apply OQ.s10 | apply OQ.s11 | apply OQ.s12 | apply OQ.s13 | apply OQ.s14 | apply OQ.s15 | apply OQ.s16 | apply OQ.s17 | apply OQ.s18 | apply OQ.s19))
  clear hS hFz
  have HO := Lib.hid hO
  have hS := HO.out.cells
  have hFz := HO.out.free
  have hG : b2 = false → bad = false ∧ fieldsD lim bs = G3 lim (UInt8.ofNat C0) s1 x2.toNat r := fun h => by
    obtain ⟨h1, y, he, hd⟩ := hg h
    obtain ⟨h2, h3⟩ := HG.out h1
    obtain ⟨rfl, _⟩ := num_back he
    exact ⟨h2, h3.trans (G2_some hd)⟩
  have hB : b2 = true → BadO bad bs := fun h => by
    rcases hb h with h1 | h1
    · exact HB.out h1
    · by_cases hp : b1 = true
      · exact HB.out hp
      · obtain ⟨_, h3⟩ := HG.out (by simpa using hp)
        exact .inr (h3.trans (G2_none h1))
  have HM2 := Lib.hid (show b2 = false → b1 = false from fun h => (hg h).1)
  have HX2 := Lib.hid (show b2 = false → x2 = ((x2.toNat : Nat) : Int) from fun h => by obtain ⟨_, y, he, _⟩ := hg h; exact (num_back he).2)
  have HG := Lib.hid hG
  have HB := Lib.hid hB
  clear hO hc hk hb hg hG hB
  go_wp2_with fail
  refine (qnum_any _ B p _ _ (OQ.cur (w0 := w) (q := w.heap.size) (by with_reducible repeat' (first | exact HO.out | apply OQ.s0 | apply OQ.s1 | apply OQ.s2 | apply OQ.s3 | apply OQ.s4 | apply OQ.s5 | apply OQ.s6 | apply OQ.s7 | apply OQ.s8 | apply OQ.s9 | apply OQ.s10 | apply OQ.s11 | apply OQ.s12 | apply OQ.s13 | apply OQ.s14 | apply OQ.s15 | apply OQ.s16 | apply OQ.s17 | apply OQ.s18 | apply OQ.s19)))).mono ?_
  rintro e w2 ⟨_, r, b3, rfl, ⟨x3, rfl⟩, hc, hk, hb, hg⟩
  have hO := OQ.step hk hc (by with_reducible repeat' (first | exact HO.out | apply OQ.s0 | apply OQ.s1 | apply OQ.s2 | apply OQ.s3 | apply OQ.s4 | apply OQ.s5 | apply OQ.s6 | apply OQ.s7 | apply OQ.s8 | apply OQ.s9 | apply OQ.s10 | apply OQ.s11 | apply OQ.s12 | apply OQ.s13 | apply OQ.s14 | apply OQ.s15 | apply OQ.s16 | apply OQ.s17 | apply OQ.s18 | apply OQ.s19))
  clear hS hFz
  have HO := Lib.hid hO
  have hS := HO.out.cells
  have hFz := HO.out.free
  have hG : b3 = false → bad = false ∧ fieldsD lim bs = G4 lim (UInt8.ofNat C0) s1 x2.toNat x3.toNat r := fun h => by
    obtain ⟨h1, y, he, hd⟩ := hg h
    obtain ⟨h2, h3⟩ := HG.out h1
    obtain ⟨rfl, _⟩ := num_back he
    exact ⟨h2, h3.trans (G3_some hd)⟩
  have hB : b3 = true → BadO bad bs := fun h => by
    rcases hb h with h1 | h1
    · exact HB.out h1
    · by_cases hp : b2 = true
      · exact HB.out hp
      · obtain ⟨_, h3⟩ := HG.out (by simpa using hp)
        exact .inr (h3.trans (G3_none h1))
  have HM3 := Lib.hid (show b3 = false → b2 = false from fun h => (hg h).1)
  have HX3 := Lib.hid (show b3 = false → x3 = ((x3.toNat : Nat) : Int) from fun h => by obtain ⟨_, y, he, _⟩ := hg h; exact (num_back he).2)
  have HG := Lib.hid hG
  have HB := Lib.hid hB
  clear hO hc hk hb hg hG hB
  go_wp2_with fail
  refine (qbyte_any _ B p _ _ (OQ.cur (w0 := w) (q := w.heap.size) (by with_reducible repeat' (first | exact HO.out | apply OQ.s0 | apply OQ.s1 | apply OQ.s2 | apply OQ.s3 | apply OQ.s4 | apply OQ.s5 | apply OQ.s6 | apply OQ.s7 | apply OQ.s8 | apply OQ.s9 | apply OQ.s10 | apply OQ.s11 | apply OQ.s12 | apply OQ.s13 | apply OQ.s14 | apply OQ.s15 | apply OQ.s16 | apply OQ.s17 | apply OQ.s18 | apply OQ.s19)))).mono ?_
  rintro e w2 ⟨_, r, b4, rfl, ⟨C4, rfl, hC4⟩, hc, hk, hb, hg⟩
  have hO := OQ.step hk hc (by with_reducible repeat' (first | exact HO.out | apply OQ.s0 | apply OQ.s1 | apply OQ.s2 | apply OQ.s3 | apply OQ.s4 | apply OQ.s5 | apply OQ.s6 | apply OQ.s7 | apply OQ.s8 | apply OQ.s9 | apply OQ.s10 | apply OQ.s11 | apply OQ.s12 | apply OQ.s13 | apply OQ.s14 | apply OQ.s15 | apply OQ.s16 | apply OQ.s17 | apply OQ.s18 | apply OQ.s19))
  clear hS hFz
  have HO := Lib.hid hO
  have hS := HO.out.cells
  have hFz := HO.out.free
  have hG : b4 = false → bad = false ∧ fieldsD lim bs = H4 lim (UInt8.ofNat C0) s1 x2.toNat x3.toNat (UInt8.ofNat C4) r := fun h => by
    obtain ⟨h1, y, he, hd⟩ := hg h
    obtain ⟨h2, h3⟩ := HG.out h1
    obtain ⟨rfl, _⟩ := byte_back he
    exact ⟨h2, h3.trans (G4_some hd)⟩
  have hB : b4 = true → BadO bad bs := fun h => by
    rcases hb h with h1 | h1
    · exact HB.out h1
    · by_cases hp : b3 = true
      · exact HB.out hp
      · obtain ⟨_, h3⟩ := HG.out (by simpa using hp)
        exact .inr (h3.trans (G4_none h1))
  have HM4 := Lib.hid (show b4 = false → b3 = false from fun h => (hg h).1)
  have HG := Lib.hid hG
  have HB := Lib.hid hB
  clear hO hc hk hb hg hG hB
  by_cases hf : C4 < 16
  · skip
    have d1 : decide ((15 : Int) < (C4 : Int)) = false := by simp; omega
    have d1n : decide (15 < C4) = false := by simp; omega
    obtain ⟨g1, g2, g3, g4⟩ := flag_bits0 hf
    obtain ⟨bf, hbf⟩ : ∃ bf, bf = b4 := ⟨_, rfl⟩
    have HF := Lib.hid hf
    have hO := HO.out
    rw [← hbf] at hO
    have hG : bf = false → bad = false ∧ fieldsD lim bs = G5 lim (UInt8.ofNat C0) s1 x2.toNat x3.toNat C4 r := fun h => by
      obtain ⟨h1, h2⟩ := HG.out (hbf ▸ h)
      have e : (UInt8.ofNat C4).toNat = C4 := by simp; omega
      have h3 := h2.trans (H4_some (by rw [e]; exact HF.out))
      rw [e] at h3
      exact ⟨h1, h3⟩
    have hB : bf = true → BadO bad bs := fun h => HB.out (hbf ▸ h)
    have HMF := Lib.hid (show bf = false → b4 = false from fun h => hbf ▸ h)
    clear hS hFz hf hbf hC4
    have HO := Lib.hid hO
    have hS := HO.out.cells
    have hFz := HO.out.free
    have HG := Lib.hid hG
    have HB := Lib.hid hB
    clear hO hG hB
    go_wp2_with fail
    refine (qtext_any _ B p _ _ (OQ.cur (w0 := w) (q := w.heap.size) (by with_reducible repeat' (first | exact HO.out | apply OQ.s0 | apply OQ.s1 | apply OQ.s2 | apply OQ.s3 | apply OQ.s4 | apply OQ.s5 | apply OQ.s6 | apply OQ.s7 | apply OQ.s8 | apply OQ.s9 | apply OQ.s10 | apply OQ.s11 | apply OQ.s12 | apply OQ.s13 | apply OQ.s14 | apply OQ.s15 | apply OQ.s16 | apply OQ.s17 | apply OQ.s18 | apply OQ.s19)))).mono ?_
    rintro e w2 ⟨_, r, b5, rfl, ⟨s5, rfl, hC5⟩, hc, hk, hb, hg⟩
    have hO := OQ.step hk hc (by with_reducible repeat' (first | exact HO.out | apply OQ.s0 | apply OQ.s1 | apply OQ.s2 | apply OQ.s3 | apply OQ.s4 | apply OQ.s5 | apply OQ.s6 | apply OQ.s7 | apply OQ.s8 | apply OQ.s9 | apply OQ.s10 | apply OQ.s11 | apply OQ.s12 | apply OQ.s13 | apply OQ.s14 | apply OQ.s15 | apply OQ.s16 | apply OQ.s17 | apply OQ.s18 | apply OQ.s19))
    clear hS hFz
    have HO := Lib.hid hO
    have hS := HO.out.cells
    have hFz := HO.out.free
    have hG : b5 = false → bad = false ∧ fieldsD lim bs = G6 lim (UInt8.ofNat C0) s1 x2.toNat x3.toNat C4 s5 r := fun h => by
      obtain ⟨h1, y, he, hd⟩ := hg h
      obtain ⟨h2, h3⟩ := HG.out h1
      obtain rfl := text_back he
      exact ⟨h2, h3.trans (G5_some hd)⟩
    have hB : b5 = true → BadO bad bs := fun h => by
      rcases hb h with h1 | h1
      · exact HB.out h1
      · by_cases hp : bf = true
        · exact HB.out hp
        · obtain ⟨_, h3⟩ := HG.out (by simpa using hp)
          exact .inr (h3.trans (G5_none h1))
    have HM5 := Lib.hid (show b5 = false → bf = false from fun h => (hg h).1)
    have HX5 := Lib.hid hC5
    clear hC5
    have HG := Lib.hid hG
    have HB := Lib.hid hB
    clear hO hc hk hb hg hG hB
    go_wp2_with fail
    refine (qsize_any _ B p _ _ (OQ.cur (w0 := w) (q := w.heap.size) (by with_reducible repeat' (first | exact HO.out | apply OQ.s0 | apply OQ.s1 | apply OQ.s2 | apply OQ.s3 | apply OQ.s4 | apply OQ.s5 | apply OQ.s6 | apply OQ.s7 | apply OQ.s8 | apply OQ.s9 | apply OQ.s10 | apply OQ.s11 | apply OQ.s12 | apply OQ.s13 | apply OQ.s14 | apply OQ.s15 | apply OQ.s16 | apply OQ.s17 | apply OQ.s18 | apply OQ.s19)))).mono ?_
    rintro e w2 ⟨_, r, b6, rfl, ⟨x6, rfl⟩, hc, hk, hb, hg⟩
    have hO := OQ.step hk hc (by with_reducible repeat' (first | exact HO.out | apply OQ.s0 | apply OQ.s1 | apply OQ.s2 | apply OQ.s3 | apply OQ.s4 | apply OQ.s5 | apply OQ.s6 | apply OQ.s7 | apply OQ.s8 | apply OQ.s9 | apply OQ.s10 | apply OQ.s11 | apply OQ.s12 | apply OQ.s13 | apply OQ.s14 | apply OQ.s15 | apply OQ.s16 | apply OQ.s17 | apply OQ.s18 | apply OQ.s19))
    clear hS hFz
    have HO := Lib.hid hO
    have hS := HO.out.cells
    have hFz := HO.out.free
    have hG : b6 = false → bad = false ∧ fieldsD lim bs = G7 lim (UInt8.ofNat C0) s1 x2.toNat x3.toNat C4 s5 x6.toNat r := fun h => by
      obtain ⟨h1, y, he, hd⟩ := hg h
      obtain ⟨h2, h3⟩ := HG.out h1
      obtain ⟨rfl, _⟩ := num_back he
      exact ⟨h2, h3.trans (G6_some hd)⟩
    have hB : b6 = true → BadO bad bs := fun h => by
      rcases hb h with h1 | h1
      · exact HB.out h1
      · by_cases hp : b5 = true
        · exact HB.out hp
        · obtain ⟨_, h3⟩ := HG.out (by simpa using hp)
          exact .inr (h3.trans (G6_none h1))
    have HM6 := Lib.hid (show b6 = false → b5 = false from fun h => (hg h).1)
    have HX6 := Lib.hid (show b6 = false → x6 = ((x6.toNat : Nat) : Int) from fun h => by obtain ⟨_, y, he, _⟩ := hg h; exact (num_back he).2)
    have HG := Lib.hid hG
    have HB := Lib.hid hB
    clear hO hc hk hb hg hG hB
    go_wp2_with fail
    refine (qsize_any _ B p _ _ (OQ.cur (w0 := w) (q := w.heap.size) (by with_reducible repeat' (first | exact HO.out | apply OQ.s0 | apply OQ.s1 | apply OQ.s2 | apply OQ.s3 | apply OQ.s4 | apply OQ.s5 | apply OQ.s6 | apply OQ.s7 | apply OQ.s8 | apply OQ.s9 | apply OQ.s10 | apply OQ.s11 | apply OQ.s12 | apply OQ.s13 | apply OQ.s14 | apply OQ.s15 | apply OQ.s16 | apply OQ.s17 | apply OQ.s18 | apply OQ.s19)))).mono ?_
    rintro e w2 ⟨_, r, b7, rfl, ⟨x7, rfl⟩, hc, hk, hb, hg⟩
    have hO := OQ.step hk hc (by with_reducible repeat' (first | exact HO.out | apply OQ.s0 | apply OQ.s1 | apply OQ.s2 | apply OQ.s3 | apply OQ.s4 | apply OQ.s5 | apply OQ.s6 | apply OQ.s7 | apply OQ.s8 | apply OQ.s9 | apply OQ.s10 | apply OQ.s11 | apply OQ.s12 | apply OQ.s13 | apply OQ.s14 | apply OQ.s15 | apply OQ.s16 | apply OQ.s17 | apply OQ.s18 | apply OQ.s19))
    clear hS hFz
    have HO := Lib.hid hO
    have hS := HO.out.cells
    have hFz := HO.out.free
    have hG : b7 = false → bad = false ∧ fieldsD lim bs = G8 lim (UInt8.ofNat C0) s1 x2.toNat x3.toNat C4 s5 x6.toNat x7.toNat r := fun h => by
      obtain ⟨h1, y, he, hd⟩ := hg h
      obtain ⟨h2, h3⟩ := HG.out h1
      obtain ⟨rfl, _⟩ := num_back he
      exact ⟨h2, h3.trans (G7_some hd)⟩
    have hB : b7 = true → BadO bad bs := fun h => by
      rcases hb h with h1 | h1
      · exact HB.out h1
      · by_cases hp : b6 = true
        · exact HB.out hp
        · obtain ⟨_, h3⟩ := HG.out (by simpa using hp)
          exact .inr (h3.trans (G7_none h1))
    have HM7 := Lib.hid (show b7 = false → b6 = false from fun h => (hg h).1)
    have HX7 := Lib.hid (show b7 = false → x7 = ((x7.toNat : Nat) : Int) from fun h => by obtain ⟨_, y, he, _⟩ := hg h; exact (num_back he).2)
    have HG := Lib.hid hG
    have HB := Lib.hid hB
    clear hO hc hk hb hg hG hB
    go_wp2_with fail
    refine (qbyte_any _ B p _ _ (OQ.cur (w0 := w) (q := w.heap.size) (by with_reducible repeat' (first | exact HO.out | apply OQ.s0 | apply OQ.s1 | apply OQ.s2 | apply OQ.s3 | apply OQ.s4 | apply OQ.s5 | apply OQ.s6 | apply OQ.s7 | apply OQ.s8 | apply OQ.s9 | apply OQ.s10 | apply OQ.s11 | apply OQ.s12 | apply OQ.s13 | apply OQ.s14 | apply OQ.s15 | apply OQ.s16 | apply OQ.s17 | apply OQ.s18 | apply OQ.s19)))).mono ?_
    rintro e w2 ⟨_, r, b8, rfl, ⟨C8, rfl, hC8⟩, hc, hk, hb, hg⟩
    have hO := OQ.step hk hc (by with_reducible repeat' (first | exact HO.out | apply OQ.s0 | apply OQ.s1 | apply OQ.s2 | apply OQ.s3 | apply OQ.s4 | apply OQ.s5 | apply OQ.s6 | apply OQ.s7 | apply OQ.s8 | apply OQ.s9 | apply OQ.s10 | apply OQ.s11 | apply OQ.s12 | apply OQ.s13 | apply OQ.s14 | apply OQ.s15 | apply OQ.s16 | apply OQ.s17 | apply OQ.s18 | apply OQ.s19))
    clear hS hFz
    have HO := Lib.hid hO
    have hS := HO.out.cells
    have hFz := HO.out.free
    have hG : b8 = false → bad = false ∧ fieldsD lim bs = G9 lim (UInt8.ofNat C0) s1 x2.toNat x3.toNat C4 s5 x6.toNat x7.toNat (UInt8.ofNat C8) r := fun h => by
      obtain ⟨h1, y, he, hd⟩ := hg h
      obtain ⟨h2, h3⟩ := HG.out h1
      obtain ⟨rfl, _⟩ := byte_back he
      exact ⟨h2, h3.trans (G8_some hd)⟩
    have hB : b8 = true → BadO bad bs := fun h => by
      rcases hb h with h1 | h1
      · exact HB.out h1
      · by_cases hp : b7 = true
        · exact HB.out hp
        · obtain ⟨_, h3⟩ := HG.out (by simpa using hp)
          exact .inr (h3.trans (G8_none h1))
    have HM8 := Lib.hid (show b8 = false → b7 = false from fun h => (hg h).1)
    have HX8 := Lib.hid (show b8 = false → C8 = (UInt8.ofNat C8).toNat from fun h => by obtain ⟨_, y, he, _⟩ := hg h; obtain ⟨e1, e2⟩ := byte_back he; rw [← e1]; exact e2)
    have HG := Lib.hid hG
    have HB := Lib.hid hB
    clear hO hc hk hb hg hG hB
    go_wp2_with fail
    refine (qtext_any _ B p _ _ (OQ.cur (w0 := w) (q := w.heap.size) (by with_reducible repeat' (first | exact HO.out | apply OQ.s0 | apply OQ.s1 | apply OQ.s2 | apply OQ.s3 | apply OQ.s4 | apply OQ.s5 | apply OQ.s6 | apply OQ.s7 | apply OQ.s8 | apply OQ.s9 | apply OQ.s10 | apply OQ.s11 | apply OQ.s12 | apply OQ.s13 | apply OQ.s14 | apply OQ.s15 | apply OQ.s16 | apply OQ.s17 | apply OQ.s18 | apply OQ.s19)))).mono ?_
    rintro e w2 ⟨_, r, b9, rfl, ⟨s9, rfl, hC9⟩, hc, hk, hb, hg⟩
    have hO := OQ.step hk hc (by with_reducible repeat' (first | exact HO.out | apply OQ.s0 | apply OQ.s1 | apply OQ.s2 | apply OQ.s3 | apply OQ.s4 | apply OQ.s5 | apply OQ.s6 | apply OQ.s7 | apply OQ.s8 | apply OQ.s9 | apply OQ.s10 | apply OQ.s11 | apply OQ.s12 | apply OQ.s13 | apply OQ.s14 | apply OQ.s15 | apply OQ.s16 | apply OQ.s17 | apply OQ.s18 | apply OQ.s19))
    clear hS hFz
    have HO := Lib.hid hO
    have hS := HO.out.cells
    have hFz := HO.out.free
    have hG : b9 = false → bad = false ∧ fieldsD lim bs = G10 lim (UInt8.ofNat C0) s1 x2.toNat x3.toNat C4 s5 x6.toNat x7.toNat (UInt8.ofNat C8) s9 r := fun h => by
      obtain ⟨h1, y, he, hd⟩ := hg h
      obtain ⟨h2, h3⟩ := HG.out h1
      obtain rfl := text_back he
      exact ⟨h2, h3.trans (G9_some hd)⟩
    have hB : b9 = true → BadO bad bs := fun h => by
      rcases hb h with h1 | h1
      · exact HB.out h1
      · by_cases hp : b8 = true
        · exact HB.out hp
        · obtain ⟨_, h3⟩ := HG.out (by simpa using hp)
          exact .inr (h3.trans (G9_none h1))
    have HM9 := Lib.hid (show b9 = false → b8 = false from fun h => (hg h).1)
    have HX9 := Lib.hid hC9
    clear hC9
    have HG := Lib.hid hG
    have HB := Lib.hid hB
    clear hO hc hk hb hg hG hB
    go_wp2_with fail
    refine (qtext_any _ B p _ _ (OQ.cur (w0 := w) (q := w.heap.size) (by with_reducible repeat' (first | exact HO.out | apply OQ.s0 | apply OQ.s1 | apply OQ.s2 | apply OQ.s3 | apply OQ.s4 | apply OQ.s5 | apply OQ.s6 | apply OQ.s7 | apply OQ.s8 | apply OQ.s9 | apply OQ.s10 | apply OQ.s11 | apply OQ.s12 | apply OQ.s13 | apply OQ.s14 | apply OQ.s15 | apply OQ.s16 | apply OQ.s17 | apply OQ.s18 | apply OQ.s19)))).mono ?_
    rintro e w2 ⟨_, r, b10, rfl, ⟨s10, rfl, hC10⟩, hc, hk, hb, hg⟩
    have hO := OQ.step hk hc (by with_reducible repeat' (first | exact HO.out | apply OQ.s0 | apply OQ.s1 | apply OQ.s2 | apply OQ.s3 | apply OQ.s4 | apply OQ.s5 | apply OQ.s6 | apply OQ.s7 | apply OQ.s8 | apply OQ.s9 | apply OQ.s10 | apply OQ.s11 | apply OQ.s12 | apply OQ.s13 | apply OQ.s14 | apply OQ.s15 | apply OQ.s16 | apply OQ.s17 | apply OQ.s18 | apply OQ.s19))
    clear hS hFz
    have HO := Lib.hid hO
    have hS := HO.out.cells
    have hFz := HO.out.free
    have hG : b10 = false → bad = false ∧ fieldsD lim bs = G11 lim (UInt8.ofNat C0) s1 x2.toNat x3.toNat C4 s5 x6.toNat x7.toNat (UInt8.ofNat C8) s9 s10 r := fun h => by
      obtain ⟨h1, y, he, hd⟩ := hg h
      obtain ⟨h2, h3⟩ := HG.out h1
      obtain rfl := text_back he
      exact ⟨h2, h3.trans (G10_some hd)⟩
    have hB : b10 = true → BadO bad bs := fun h => by
      rcases hb h with h1 | h1
      · exact HB.out h1
      · by_cases hp : b9 = true
        · exact HB.out hp
        · obtain ⟨_, h3⟩ := HG.out (by simpa using hp)
          exact .inr (h3.trans (G10_none h1))
    have HM10 := Lib.hid (show b10 = false → b9 = false from fun h => (hg h).1)
    have HX10 := Lib.hid hC10
    clear hC10
    have HG := Lib.hid hG
    have HB := Lib.hid hB
    clear hO hc hk hb hg hG hB
    go_wp2_with fail
    refine (qtext_any _ B p _ _ (OQ.cur (w0 := w) (q := w.heap.size) (by with_reducible repeat' (first | exact HO.out | apply OQ.s0 | apply OQ.s1 | apply OQ.s2 | apply OQ.s3 | apply OQ.s4 | apply OQ.s5 | apply OQ.s6 | apply OQ.s7 | apply OQ.s8 | apply OQ.s9 | apply OQ.s10 | apply OQ.s11 | apply OQ.s12 | apply OQ.s13 | apply OQ.s14 | apply OQ.s15 | apply OQ.s16 | apply OQ.s17 | apply OQ.s18 | apply OQ.s19)))).mono ?_
    rintro e w2 ⟨_, r, b11, rfl, ⟨s11, rfl, hC11⟩, hc, hk, hb, hg⟩
    have hO := OQ.step hk hc (by with_reducible repeat' (first | exact HO.out | apply OQ.s0 | apply OQ.s1 | apply OQ.s2 | apply OQ.s3 | apply OQ.s4 | apply OQ.s5 | apply OQ.s6 | apply OQ.s7 | apply OQ.s8 | apply OQ.s9 | apply OQ.s10 | apply OQ.s11 | apply OQ.s12 | apply OQ.s13 | apply OQ.s14 | apply OQ.s15 | apply OQ.s16 | apply OQ.s17 | apply OQ.s18 | apply OQ.s19))
    clear hS hFz
    have HO := Lib.hid hO
    have hS := HO.out.cells
    have hFz := HO.out.free
    have hG : b11 = false → bad = false ∧ fieldsD lim bs = G12 lim (UInt8.ofNat C0) s1 x2.toNat x3.toNat C4 s5 x6.toNat x7.toNat (UInt8.ofNat C8) s9 s10 s11 r := fun h => by
      obtain ⟨h1, y, he, hd⟩ := hg h
      obtain ⟨h2, h3⟩ := HG.out h1
      obtain rfl := text_back he
      exact ⟨h2, h3.trans (G11_some hd)⟩
    have hB : b11 = true → BadO bad bs := fun h => by
      rcases hb h with h1 | h1
      · exact HB.out h1
      · by_cases hp : b10 = true
        · exact HB.out hp
        · obtain ⟨_, h3⟩ := HG.out (by simpa using hp)
          exact .inr (h3.trans (G11_none h1))
    have HM11 := Lib.hid (show b11 = false → b10 = false from fun h => (hg h).1)
    have HX11 := Lib.hid hC11
    clear hC11
    have HG := Lib.hid hG
    have HB := Lib.hid hB
    clear hO hc hk hb hg hG hB
    go_wp2_with fail
    refine (qtext_any _ B p _ _ (OQ.cur (w0 := w) (q := w.heap.size) (by with_reducible repeat' (first | exact HO.out | apply OQ.s0 | apply OQ.s1 | apply OQ.s2 | apply OQ.s3 | apply OQ.s4 | apply OQ.s5 | apply OQ.s6 | apply OQ.s7 | apply OQ.s8 | apply OQ.s9 | apply OQ.s10 | apply OQ.s11 | apply OQ.s12 | apply OQ.s13 | apply OQ.s14 | apply OQ.s15 | apply OQ.s16 | apply OQ.s17 | apply OQ.s18 | apply OQ.s19)))).mono ?_
    rintro e w2 ⟨_, r, b12, rfl, ⟨s12, rfl, hC12⟩, hc, hk, hb, hg⟩
    have hO := OQ.step hk hc (by with_reducible repeat' (first | exact HO.out | apply OQ.s0 | apply OQ.s1 | apply OQ.s2 | apply OQ.s3 | apply OQ.s4 | apply OQ.s5 | apply OQ.s6 | apply OQ.s7 | apply OQ.s8 | apply OQ.s9 | apply OQ.s10 | apply OQ.s11 | apply OQ.s12 | apply OQ.s13 | apply OQ.s14 | apply OQ.s15 | apply OQ.s16 | apply OQ.s17 | apply OQ.s18 | apply OQ.s19))
    clear hS hFz
    have HO := Lib.hid hO
    have hS := HO.out.cells
    have hFz := HO.out.free
    have hG : b12 = false → bad = false ∧ fieldsD lim bs = G13 lim (UInt8.ofNat C0) s1 x2.toNat x3.toNat C4 s5 x6.toNat x7.toNat (UInt8.ofNat C8) s9 s10 s11 s12 r := fun h => by
      obtain ⟨h1, y, he, hd⟩ := hg h
      obtain ⟨h2, h3⟩ := HG.out h1
      obtain rfl := text_back he
      exact ⟨h2, h3.trans (G12_some hd)⟩
    have hB : b12 = true → BadO bad bs := fun h => by
      rcases hb h with h1 | h1
      · exact HB.out h1
      · by_cases hp : b11 = true
        · exact HB.out hp
        · obtain ⟨_, h3⟩ := HG.out (by simpa using hp)
          exact .inr (h3.trans (G12_none h1))
    have HM12 := Lib.hid (show b12 = false → b11 = false from fun h => (hg h).1)
    have HX12 := Lib.hid hC12
    clear hC12
    have HG := Lib.hid hG
    have HB := Lib.hid hB
    clear hO hc hk hb hg hG hB
    go_wp2_with fail
    refine (qtext_any _ B p _ _ (OQ.cur (w0 := w) (q := w.heap.size) (by with_reducible repeat' (first | exact HO.out | apply OQ.s0 | apply OQ.s1 | apply OQ.s2 | apply OQ.s3 | apply OQ.s4 | apply OQ.s5 | apply OQ.s6 | apply OQ.s7 | apply OQ.s8 | apply OQ.s9 | apply OQ.s10 | apply OQ.s11 | apply OQ.s12 | apply OQ.s13 | apply OQ.s14 | apply OQ.s15 | apply OQ.s16 | apply OQ.s17 | apply OQ.s18 | apply OQ.s19)))).mono ?_
    rintro e w2 ⟨_, r, b13, rfl, ⟨s13, rfl, hC13⟩, hc, hk, hb, hg⟩
    have hO := OQ.step hk hc (by with_reducible repeat' (first | exact HO.out | apply OQ.s0 | apply OQ.s1 | apply OQ.s2 | apply OQ.s3 | apply OQ.s4 | apply OQ.s5 | apply OQ.s6 | apply OQ.s7 | apply OQ.s8 | apply OQ.s9 | apply OQ.s10 | apply OQ.s11 | apply OQ.s12 | apply OQ.s13 | apply OQ.s14 | apply OQ.s15 | apply OQ.s16 | apply OQ.s17 | apply OQ.s18 | apply OQ.s19))
    clear hS hFz
    have HO := Lib.hid hO
    have hS := HO.out.cells
    have hFz := HO.out.free
    have hG : b13 = false → bad = false ∧ fieldsD lim bs = G14 lim (UInt8.ofNat C0) s1 x2.toNat x3.toNat C4 s5 x6.toNat x7.toNat (UInt8.ofNat C8) s9 s10 s11 s12 s13 r := fun h => by
      obtain ⟨h1, y, he, hd⟩ := hg h
      obtain ⟨h2, h3⟩ := HG.out h1
      obtain rfl := text_back he
      exact ⟨h2, h3.trans (G13_some hd)⟩
    have hB : b13 = true → BadO bad bs := fun h => by
      rcases hb h with h1 | h1
      · exact HB.out h1
      · by_cases hp : b12 = true
        · exact HB.out hp
        · obtain ⟨_, h3⟩ := HG.out (by simpa using hp)
          exact .inr (h3.trans (G13_none h1))
    have HM13 := Lib.hid (show b13 = false → b12 = false from fun h => (hg h).1)
    have HX13 := Lib.hid hC13
    clear hC13
    have HG := Lib.hid hG
    have HB := Lib.hid hB
    clear hO hc hk hb hg hG hB
    go_wp2_with fail
    refine (qbyte_any _ B p _ _ (OQ.cur (w0 := w) (q := w.heap.size) (by with_reducible repeat' (first | exact HO.out | apply OQ.s0 | apply OQ.s1 | apply OQ.s2 | apply OQ.s3 | apply OQ.s4 | apply OQ.s5 | apply OQ.s6 | apply OQ.s7 | apply OQ.s8 | apply OQ.s9 | apply OQ.s10 | apply OQ.s11 | apply OQ.s12 | apply OQ.s13 | apply OQ.s14 | apply OQ.s15 | apply OQ.s16 | apply OQ.s17 | apply OQ.s18 | apply OQ.s19)))).mono ?_
    rintro e w2 ⟨_, r, b14, rfl, ⟨C14, rfl, hC14⟩, hc, hk, hb, hg⟩
    have hO := OQ.step hk hc (by with_reducible repeat' (first | exact HO.out | apply OQ.s0 | apply OQ.s1 | apply OQ.s2 | apply OQ.s3 | apply OQ.s4 | apply OQ.s5 | apply OQ.s6 | apply OQ.s7 | apply OQ.s8 | apply OQ.s9 | apply OQ.s10 | apply OQ.s11 | apply OQ.s12 | apply OQ.s13 | apply OQ.s14 | apply OQ.s15 | apply OQ.s16 | apply OQ.s17 | apply OQ.s18 | apply OQ.s19))
    clear hS hFz
    have HO := Lib.hid hO
    have hS := HO.out.cells
    have hFz := HO.out.free
    have hG : b14 = false → bad = false ∧ fieldsD lim bs = G15 lim (UInt8.ofNat C0) s1 x2.toNat x3.toNat C4 s5 x6.toNat x7.toNat (UInt8.ofNat C8) s9 s10 s11 s12 s13 (UInt8.ofNat C14) r := fun h => by
      obtain ⟨h1, y, he, hd⟩ := hg h
      obtain ⟨h2, h3⟩ := HG.out h1
      obtain ⟨rfl, _⟩ := byte_back he
      exact ⟨h2, h3.trans (G14_some hd)⟩
    have hB : b14 = true → BadO bad bs := fun h => by
      rcases hb h with h1 | h1
      · exact HB.out h1
      · by_cases hp : b13 = true
        · exact HB.out hp
        · obtain ⟨_, h3⟩ := HG.out (by simpa using hp)
          exact .inr (h3.trans (G14_none h1))
    have HM14 := Lib.hid (show b14 = false → b13 = false from fun h => (hg h).1)
    have HX14 := Lib.hid (show b14 = false → C14 = (UInt8.ofNat C14).toNat from fun h => by obtain ⟨_, y, he, _⟩ := hg h; obtain ⟨e1, e2⟩ := byte_back he; rw [← e1]; exact e2)
    have HG := Lib.hid hG
    have HB := Lib.hid hB
    clear hO hc hk hb hg hG hB
    go_wp2_with fail
    refine (qnum_any _ B p _ _ (OQ.cur (w0 := w) (q := w.heap.size) (by with_reducible repeat' (first | exact HO.out | apply OQ.s0 | apply OQ.s1 | apply OQ.s2 | apply OQ.s3 | apply OQ.s4 | apply OQ.s5 | apply OQ.s6 | apply OQ.s7 | apply OQ.s8 | apply OQ.s9 | apply OQ.s10 | apply OQ.s11 | apply OQ.s12 | apply OQ.s13 | apply OQ.s14 | apply OQ.s15 | apply OQ.s16 | apply OQ.s17 | apply OQ.s18 | apply OQ.s19)))).mono ?_
    rintro e w2 ⟨_, r, b15, rfl, ⟨x15, rfl⟩, hc, hk, hb, hg⟩
    have hO := OQ.step hk hc (by with_reducible repeat' (first | exact HO.out | apply OQ.s0 | apply OQ.s1 | apply OQ.s2 | apply OQ.s3 | apply OQ.s4 | apply OQ.s5 | apply OQ.s6 | apply OQ.s7 | apply OQ.s8 | apply OQ.s9 | apply OQ.s10 | apply OQ.s11 | apply OQ.s12 | apply OQ.s13 | apply OQ.s14 | apply OQ.s15 | apply OQ.s16 | apply OQ.s17 | apply OQ.s18 | apply OQ.s19))
    clear hS hFz
    have HO := Lib.hid hO
    have hS := HO.out.cells
    have hFz := HO.out.free
    have hG : b15 = false → bad = false ∧ fieldsD lim bs = G16 lim (UInt8.ofNat C0) s1 x2.toNat x3.toNat C4 s5 x6.toNat x7.toNat (UInt8.ofNat C8) s9 s10 s11 s12 s13 (UInt8.ofNat C14) x15.toNat r := fun h => by
      obtain ⟨h1, y, he, hd⟩ := hg h
      obtain ⟨h2, h3⟩ := HG.out h1
      obtain ⟨rfl, _⟩ := num_back he
      exact ⟨h2, h3.trans (G15_some hd)⟩
    have hB : b15 = true → BadO bad bs := fun h => by
      rcases hb h with h1 | h1
      · exact HB.out h1
      · by_cases hp : b14 = true
        · exact HB.out hp
        · obtain ⟨_, h3⟩ := HG.out (by simpa using hp)
          exact .inr (h3.trans (G15_none h1))
    have HM15 := Lib.hid (show b15 = false → b14 = false from fun h => (hg h).1)
    have HX15 := Lib.hid (show b15 = false → x15 = ((x15.toNat : Nat) : Int) from fun h => by obtain ⟨_, y, he, _⟩ := hg h; exact (num_back he).2)
    have HG := Lib.hid hG
    have HB := Lib.hid hB
    clear hO hc hk hb hg hG hB
    go_wp2_with fail
    refine (qnum_any _ B p _ _ (OQ.cur (w0 := w) (q := w.heap.size) (by with_reducible repeat' (first | exact HO.out | apply OQ.s0 | apply OQ.s1 | apply OQ.s2 | apply OQ.s3 | apply OQ.s4 | apply OQ.s5 | apply OQ.s6 | apply OQ.s7 | apply OQ.s8 | apply OQ.s9 | apply OQ.s10 | apply OQ.s11 | apply OQ.s12 | apply OQ.s13 | apply OQ.s14 | apply OQ.s15 | apply OQ.s16 | apply OQ.s17 | apply OQ.s18 | apply OQ.s19)))).mono ?_
    rintro e w2 ⟨_, r, b16, rfl, ⟨x16, rfl⟩, hc, hk, hb, hg⟩
    have hO := OQ.step hk hc (by with_reducible repeat' (first | exact HO.out | apply OQ.s0 | apply OQ.s1 | apply OQ.s2 | apply OQ.s3 | apply OQ.s4 | apply OQ.s5 | apply OQ.s6 | apply OQ.s7 | apply OQ.s8 | apply OQ.s9 | apply OQ.s10 | apply OQ.s11 | apply OQ.s12 | apply OQ.s13 | apply OQ.s14 | apply OQ.s15 | apply OQ.s16 | apply OQ.s17 | apply OQ.s18 | apply OQ.s19))
    clear hS hFz
    have HO := Lib.hid hO
    have hS := HO.out.cells
    have hFz := HO.out.free
    have hG : b16 = false → bad = false ∧ fieldsD lim bs = G17 lim (UInt8.ofNat C0) s1 x2.toNat x3.toNat C4 s5 x6.toNat x7.toNat (UInt8.ofNat C8) s9 s10 s11 s12 s13 (UInt8.ofNat C14) x15.toNat x16.toNat r := fun h => by
      obtain ⟨h1, y, he, hd⟩ := hg h
      obtain ⟨h2, h3⟩ := HG.out h1
      obtain ⟨rfl, _⟩ := num_back he
      exact ⟨h2, h3.trans (G16_some hd)⟩
    have hB : b16 = true → BadO bad bs := fun h => by
      rcases hb h with h1 | h1
      · exact HB.out h1
      · by_cases hp : b15 = true
        · exact HB.out hp
        · obtain ⟨_, h3⟩ := HG.out (by simpa using hp)
          exact .inr (h3.trans (G16_none h1))
    have HM16 := Lib.hid (show b16 = false → b15 = false from fun h => (hg h).1)
    have HX16 := Lib.hid (show b16 = false → x16 = ((x16.toNat : Nat) : Int) from fun h => by obtain ⟨_, y, he, _⟩ := hg h; exact (num_back he).2)
    have HG := Lib.hid hG
    have HB := Lib.hid hB
    clear hO hc hk hb hg hG hB
    go_wp2_with (refine wpList_loadObj rfl _ rfl (w.heap.size + 1) rfl _ (OQ.cells (B := B) (w0 := w) (p := p) (q := w.heap.size) (by with_reducible repeat' (first | exact HO.out | apply OQ.s0 | apply OQ.s1 | apply OQ.s2 | apply OQ.s3 | apply OQ.s4 | apply OQ.s5 | apply OQ.s6 | apply OQ.s7 | apply OQ.s8 | apply OQ.s9 | apply OQ.s10 | apply OQ.s11 | apply OQ.s12 | apply OQ.s13 | apply OQ.s14 | apply OQ.s15 | apply OQ.s16 | apply OQ.s17 | apply OQ.s18 | apply OQ.s19))) ?_)
    refine (rightR_any _ _ (fits_of HX1.out HX5.out HX9.out HX10.out HX11.out HX12.out HX13.out)).mono ?_
    rintro e w3 ⟨rfl, hb⟩
    have hO := OQ.below (B := B) (w0 := w) (p := p) (q := w.heap.size) hb (by with_reducible repeat' (first | exact HO.out | apply OQ.s0 | apply OQ.s1 | apply OQ.s2 | apply OQ.s3 | apply OQ.s4 | apply OQ.s5 | apply OQ.s6 | apply OQ.s7 | apply OQ.s8 | apply OQ.s9 | apply OQ.s10 | apply OQ.s11 | apply OQ.s12 | apply OQ.s13 | apply OQ.s14 | apply OQ.s15 | apply OQ.s16 | apply OQ.s17 | apply OQ.s18 | apply OQ.s19))
    clear hb
    have HO := Lib.hid hO
    clear hS hFz hO
    have HE : b16 = false → objOf (UInt8.ofNat C0) s1 x2.toNat x3.toNat C4 s5 x6.toNat x7.toNat (UInt8.ofNat C8) s9 s10 s11 s12 s13 (UInt8.ofNat C14) x15.toNat x16.toNat = (⟨(C0 : Int), s1, x2, x3, C4 % 2 == 1, C4 / 2 % 2 == 1, s5, x6, x7, (C8 : Int), C4 / 4 % 2 == 1, C4 / 8 % 2 == 1, s9, s10, s11, s12, s13, (C14 : Int), x15, x16⟩ : Obj) := fun m16 => by
      have m15 := HM16.out m16
      have m14 := HM15.out m15
      have m13 := HM14.out m14
      have m12 := HM13.out m13
      have m11 := HM12.out m12
      have m10 := HM11.out m11
      have m9 := HM10.out m10
      have m8 := HM9.out m9
      have m7 := HM8.out m8
      have m6 := HM7.out m7
      have m5 := HM6.out m6
      have mf := HM5.out m5
      have m4 := HMF.out mf
      have m3 := HM4.out m4
      have m2 := HM3.out m3
      have m1 := HM2.out m2
      have m0 := HM1.out m1
      unfold objOf
      rw [← HX0.out m0, ← HX2.out m2, ← HX3.out m3, ← HX6.out m6, ← HX7.out m7, ← HX8.out m8, ← HX14.out m14, ← HX15.out m15, ← HX16.out m16]
    cases hr : rightB (⟨(C0 : Int), s1, x2, x3, C4 % 2 == 1, C4 / 2 % 2 == 1, s5, x6, x7, (C8 : Int), C4 / 4 % 2 == 1, C4 / 8 % 2 == 1, s9, s10, s11, s12, s13, (C14 : Int), x15, x16⟩ : Obj) with
    | false =>
      have HR := Lib.hid hr
      obtain ⟨c1, f1⟩ := HO.out.flag
      have HO2 := Lib.hid HO.out.setBad
      clear hr
      go_wp2_with (refine wpList_loadObj rfl _ rfl (w.heap.size + 1) rfl (⟨(C0 : Int), s1, x2, x3, C4 % 2 == 1, C4 / 2 % 2 == 1, s5, x6, x7, (C8 : Int), C4 / 4 % 2 == 1, C4 / 8 % 2 == 1, s9, s10, s11, s12, s13, (C14 : Int), x15, x16⟩ : Obj) (HO2.out.cells) ?_; refine wpList_storeObj rfl _ _ rfl w.heap.size rfl (⟨(C0 : Int), s1, x2, x3, C4 % 2 == 1, C4 / 2 % 2 == 1, s5, x6, x7, (C8 : Int), C4 / 4 % 2 == 1, C4 / 8 % 2 == 1, s9, s10, s11, s12, s13, (C14 : Int), x15, x16⟩ : Obj) rfl _ HO2.out.res (cellsO_size _) ?_)
      refine bodyPost_ret (v := .agg (cellsO (⟨(C0 : Int), s1, x2, x3, C4 % 2 == 1, C4 / 2 % 2 == 1, s5, x6, x7, (C8 : Int), C4 / 4 % 2 == 1, C4 / 8 % 2 == 1, s9, s10, s11, s12, s13, (C14 : Int), x15, x16⟩ : Obj))) (results_obj _ rfl rfl (cells_all (Wset_same (heap_lt HO2.out.res)))) rfl ?_
      refine Qd.bads rfl ⟨_, rfl⟩ (HO2.out.cur.keep2 (fun k hk => Wset_ne (by have := HO2.out.lt; have := HO2.out.cur.le; omega))) (HO2.out.kept.wset (fun hx => absurd hx (by have := HO2.out.new; omega)) _) ?_
      by_cases hp : b16 = true
      · exact (HB.out hp).imp id objD_none
      · obtain ⟨_, h3⟩ := HG.out (by simpa using hp)
        exact .inr (objD_wrong h3 (by rw [HE (by simpa using hp)]; exact HR.out))
    | true =>
      have HR := Lib.hid hr
      have HO2 := HO
      clear hr
      go_wp2_with (refine wpList_loadObj rfl _ rfl (w.heap.size + 1) rfl (⟨(C0 : Int), s1, x2, x3, C4 % 2 == 1, C4 / 2 % 2 == 1, s5, x6, x7, (C8 : Int), C4 / 4 % 2 == 1, C4 / 8 % 2 == 1, s9, s10, s11, s12, s13, (C14 : Int), x15, x16⟩ : Obj) (HO2.out.cells) ?_; refine wpList_storeObj rfl _ _ rfl w.heap.size rfl (⟨(C0 : Int), s1, x2, x3, C4 % 2 == 1, C4 / 2 % 2 == 1, s5, x6, x7, (C8 : Int), C4 / 4 % 2 == 1, C4 / 8 % 2 == 1, s9, s10, s11, s12, s13, (C14 : Int), x15, x16⟩ : Obj) rfl _ HO2.out.res (cellsO_size _) ?_)
      refine bodyPost_ret (v := .agg (cellsO (⟨(C0 : Int), s1, x2, x3, C4 % 2 == 1, C4 / 2 % 2 == 1, s5, x6, x7, (C8 : Int), C4 / 4 % 2 == 1, C4 / 8 % 2 == 1, s9, s10, s11, s12, s13, (C14 : Int), x15, x16⟩ : Obj))) (results_obj _ rfl rfl (cells_all (Wset_same (heap_lt HO2.out.res)))) rfl ?_
      exact ⟨_, r, b16, rfl, ⟨_, rfl⟩, (HO2.out.cur.keep2 (fun k hk => Wset_ne (by have := HO2.out.lt; have := HO2.out.cur.le; omega))), (HO2.out.kept.wset (fun hx => absurd hx (by have := HO2.out.new; omega)) _), fun h => (HB.out h).imp id objD_none, fun h => ⟨(HG.out h).1, (⟨(C0 : Int), s1, x2, x3, C4 % 2 == 1, C4 / 2 % 2 == 1, s5, x6, x7, (C8 : Int), C4 / 4 % 2 == 1, C4 / 8 % 2 == 1, s9, s10, s11, s12, s13, (C14 : Int), x15, x16⟩ : Obj), rfl, by rw [← HE h]; exact objD_right (HG.out h).2 (by rw [HE h]; exact HR.out)⟩⟩
  · skip
    have d1 : decide ((15 : Int) < (C4 : Int)) = true := by simp; omega
    have d1n : decide (15 < C4) = true := by simp; omega
    obtain ⟨bf, hbf⟩ : ∃ bf, bf = true := ⟨_, rfl⟩
    have HF := Lib.hid hf
    obtain ⟨c1, f1⟩ := HO.out.flag
    have hO := HO.out.setBad
    conv at hO => arg 8; rw [← hbf]
    skip
    skip
    have hG : bf = false → bad = false ∧ fieldsD lim bs = G5 lim (UInt8.ofNat C0) s1 x2.toNat x3.toNat C4 r := fun h => by rw [hbf] at h; cases h
    have hB : bf = true → BadO bad bs := fun _ => by
      by_cases hp : b4 = true
      · exact HB.out hp
      · obtain ⟨_, h3⟩ := HG.out (by simpa using hp)
        have e : (UInt8.ofNat C4).toNat = C4 := by simp; omega
        exact .inr (h3.trans (H4_none (by rw [e]; exact HF.out)))
    have HBF := Lib.hid hbf
    clear hS hFz hf hC4
    have HO := Lib.hid hO
    have hS := HO.out.cells
    have hFz := HO.out.free
    have HG := Lib.hid hG
    have HB := Lib.hid hB
    clear hO hG hB
    go_wp2_with fail
    refine (qtext_any _ B p _ _ (OQ.cur (w0 := w) (q := w.heap.size) (by with_reducible repeat' (first | exact HO.out | apply OQ.s0 | apply OQ.s1 | apply OQ.s2 | apply OQ.s3 | apply OQ.s4 | apply OQ.s5 | apply OQ.s6 | apply OQ.s7 | apply OQ.s8 | apply OQ.s9 | apply OQ.s10 | apply OQ.s11 | apply OQ.s12 | apply OQ.s13 | apply OQ.s14 | apply OQ.s15 | apply OQ.s16 | apply OQ.s17 | apply OQ.s18 | apply OQ.s19)))).mono ?_
    rintro e w2 ⟨_, r, b5, rfl, ⟨s5, rfl, hC5⟩, hc, hk, hb, hg⟩
    have hO := OQ.step hk hc (by with_reducible repeat' (first | exact HO.out | apply OQ.s0 | apply OQ.s1 | apply OQ.s2 | apply OQ.s3 | apply OQ.s4 | apply OQ.s5 | apply OQ.s6 | apply OQ.s7 | apply OQ.s8 | apply OQ.s9 | apply OQ.s10 | apply OQ.s11 | apply OQ.s12 | apply OQ.s13 | apply OQ.s14 | apply OQ.s15 | apply OQ.s16 | apply OQ.s17 | apply OQ.s18 | apply OQ.s19))
    clear hS hFz
    have HO := Lib.hid hO
    have hS := HO.out.cells
    have hFz := HO.out.free
    have hG : b5 = false → bad = false ∧ fieldsD lim bs = G6 lim (UInt8.ofNat C0) s1 x2.toNat x3.toNat C4 s5 r := fun h => by
      obtain ⟨h1, y, he, hd⟩ := hg h
      obtain ⟨h2, h3⟩ := HG.out h1
      obtain rfl := text_back he
      exact ⟨h2, h3.trans (G5_some hd)⟩
    have hB : b5 = true → BadO bad bs := fun h => by
      rcases hb h with h1 | h1
      · exact HB.out h1
      · by_cases hp : bf = true
        · exact HB.out hp
        · obtain ⟨_, h3⟩ := HG.out (by simpa using hp)
          exact .inr (h3.trans (G5_none h1))
    have HM5 := Lib.hid (show b5 = false → bf = false from fun h => (hg h).1)
    have HX5 := Lib.hid hC5
    clear hC5
    have HG := Lib.hid hG
    have HB := Lib.hid hB
    clear hO hc hk hb hg hG hB
    go_wp2_with fail
    refine (qsize_any _ B p _ _ (OQ.cur (w0 := w) (q := w.heap.size) (by with_reducible repeat' (first | exact HO.out | apply OQ.s0 | apply OQ.s1 | apply OQ.s2 | apply OQ.s3 | apply OQ.s4 | apply OQ.s5 | apply OQ.s6 | apply OQ.s7 | apply OQ.s8 | apply OQ.s9 | apply OQ.s10 | apply OQ.s11 | apply OQ.s12 | apply OQ.s13 | apply OQ.s14 | apply OQ.s15 | apply OQ.s16 | apply OQ.s17 | apply OQ.s18 | apply OQ.s19)))).mono ?_
    rintro e w2 ⟨_, r, b6, rfl, ⟨x6, rfl⟩, hc, hk, hb, hg⟩
    have hO := OQ.step hk hc (by with_reducible repeat' (first | exact HO.out | apply OQ.s0 | apply OQ.s1 | apply OQ.s2 | apply OQ.s3 | apply OQ.s4 | apply OQ.s5 | apply OQ.s6 | apply OQ.s7 | apply OQ.s8 | apply OQ.s9 | apply OQ.s10 | apply OQ.s11 | apply OQ.s12 | apply OQ.s13 | apply OQ.s14 | apply OQ.s15 | apply OQ.s16 | apply OQ.s17 | apply OQ.s18 | apply OQ.s19))
    clear hS hFz
    have HO := Lib.hid hO
    have hS := HO.out.cells
    have hFz := HO.out.free
    have hG : b6 = false → bad = false ∧ fieldsD lim bs = G7 lim (UInt8.ofNat C0) s1 x2.toNat x3.toNat C4 s5 x6.toNat r := fun h => by
      obtain ⟨h1, y, he, hd⟩ := hg h
      obtain ⟨h2, h3⟩ := HG.out h1
      obtain ⟨rfl, _⟩ := num_back he
      exact ⟨h2, h3.trans (G6_some hd)⟩
    have hB : b6 = true → BadO bad bs := fun h => by
      rcases hb h with h1 | h1
      · exact HB.out h1
      · by_cases hp : b5 = true
        · exact HB.out hp
        · obtain ⟨_, h3⟩ := HG.out (by simpa using hp)
          exact .inr (h3.trans (G6_none h1))
    have HM6 := Lib.hid (show b6 = false → b5 = false from fun h => (hg h).1)
    have HX6 := Lib.hid (show b6 = false → x6 = ((x6.toNat : Nat) : Int) from fun h => by obtain ⟨_, y, he, _⟩ := hg h; exact (num_back he).2)
    have HG := Lib.hid hG
    have HB := Lib.hid hB
    clear hO hc hk hb hg hG hB
    go_wp2_with fail
    refine (qsize_any _ B p _ _ (OQ.cur (w0 := w) (q := w.heap.size) (by with_reducible repeat' (first | exact HO.out | apply OQ.s0 | apply OQ.s1 | apply OQ.s2 | apply OQ.s3 | apply OQ.s4 | apply OQ.s5 | apply OQ.s6 | apply OQ.s7 | apply OQ.s8 | apply OQ.s9 | apply OQ.s10 | apply OQ.s11 | apply OQ.s12 | apply OQ.s13 | apply OQ.s14 | apply OQ.s15 | apply OQ.s16 | apply OQ.s17 | apply OQ.s18 | apply OQ.s19)))).mono ?_
    rintro e w2 ⟨_, r, b7, rfl, ⟨x7, rfl⟩, hc, hk, hb, hg⟩
    have hO := OQ.step hk hc (by with_reducible repeat' (first | exact HO.out | apply OQ.s0 | apply OQ.s1 | apply OQ.s2 | apply OQ.s3 | apply OQ.s4 | apply OQ.s5 | apply OQ.s6 | apply OQ.s7 | apply OQ.s8 | apply OQ.s9 | apply OQ.s10 | apply OQ.s11 | apply OQ.s12 | apply OQ.s13 | apply OQ.s14 | apply OQ.s15 | apply OQ.s16 | apply OQ.s17 | apply OQ.s18 | apply OQ.s19))
    clear hS hFz
    have HO := Lib.hid hO
    have hS := HO.out.cells
    have hFz := HO.out.free
    have hG : b7 = false → bad = false ∧ fieldsD lim bs = G8 lim (UInt8.ofNat C0) s1 x2.toNat x3.toNat C4 s5 x6.toNat x7.toNat r := fun h => by
      obtain ⟨h1, y, he, hd⟩ := hg h
      obtain ⟨h2, h3⟩ := HG.out h1
      obtain ⟨rfl, _⟩ := num_back he
      exact ⟨h2, h3.trans (G7_some hd)⟩
    have hB : b7 = true → BadO bad bs := fun h => by
      rcases hb h with h1 | h1
      · exact HB.out h1
      · by_cases hp : b6 = true
        · exact HB.out hp
        · obtain ⟨_, h3⟩ := HG.out (by simpa using hp)
          exact .inr (h3.trans (G7_none h1))
    have HM7 := Lib.hid (show b7 = false → b6 = false from fun h => (hg h).1)
    have HX7 := Lib.hid (show b7 = false → x7 = ((x7.toNat : Nat) : Int) from fun h => by obtain ⟨_, y, he, _⟩ := hg h; exact (num_back he).2)
    have HG := Lib.hid hG
    have HB := Lib.hid hB
    clear hO hc hk hb hg hG hB
    go_wp2_with fail
    refine (qbyte_any _ B p _ _ (OQ.cur (w0 := w) (q := w.heap.size) (by with_reducible repeat' (first | exact HO.out | apply OQ.s0 | apply OQ.s1 | apply OQ.s2 | apply OQ.s3 | apply OQ.s4 | apply OQ.s5 | apply OQ.s6 | apply OQ.s7 | apply OQ.s8 | apply OQ.s9 | apply OQ.s10 | apply OQ.s11 | apply OQ.s12 | apply OQ.s13 | apply OQ.s14 | apply OQ.s15 | apply OQ.s16 | apply OQ.s17 | apply OQ.s18 | apply OQ.s19)))).mono ?_
    rintro e w2 ⟨_, r, b8, rfl, ⟨C8, rfl, hC8⟩, hc, hk, hb, hg⟩
    have hO := OQ.step hk hc (by with_reducible repeat' (first | exact HO.out | apply OQ.s0 | apply OQ.s1 | apply OQ.s2 | apply OQ.s3 | apply OQ.s4 | apply OQ.s5 | apply OQ.s6 | apply OQ.s7 | apply OQ.s8 | apply OQ.s9 | apply OQ.s10 | apply OQ.s11 | apply OQ.s12 | apply OQ.s13 | apply OQ.s14 | apply OQ.s15 | apply OQ.s16 | apply OQ.s17 | apply OQ.s18 | apply OQ.s19))
    clear hS hFz
    have HO := Lib.hid hO
    have hS := HO.out.cells
    have hFz := HO.out.free
    have hG : b8 = false → bad = false ∧ fieldsD lim bs = G9 lim (UInt8.ofNat C0) s1 x2.toNat x3.toNat C4 s5 x6.toNat x7.toNat (UInt8.ofNat C8) r := fun h => by
      obtain ⟨h1, y, he, hd⟩ := hg h
      obtain ⟨h2, h3⟩ := HG.out h1
      obtain ⟨rfl, _⟩ := byte_back he
      exact ⟨h2, h3.trans (G8_some hd)⟩
    have hB : b8 = true → BadO bad bs := fun h => by
      rcases hb h with h1 | h1
      · exact HB.out h1
      · by_cases hp : b7 = true
        · exact HB.out hp
        · obtain ⟨_, h3⟩ := HG.out (by simpa using hp)
          exact .inr (h3.trans (G8_none h1))
    have HM8 := Lib.hid (show b8 = false → b7 = false from fun h => (hg h).1)
    have HX8 := Lib.hid (show b8 = false → C8 = (UInt8.ofNat C8).toNat from fun h => by obtain ⟨_, y, he, _⟩ := hg h; obtain ⟨e1, e2⟩ := byte_back he; rw [← e1]; exact e2)
    have HG := Lib.hid hG
    have HB := Lib.hid hB
    clear hO hc hk hb hg hG hB
    go_wp2_with fail
    refine (qtext_any _ B p _ _ (OQ.cur (w0 := w) (q := w.heap.size) (by with_reducible repeat' (first | exact HO.out | apply OQ.s0 | apply OQ.s1 | apply OQ.s2 | apply OQ.s3 | apply OQ.s4 | apply OQ.s5 | apply OQ.s6 | apply OQ.s7 | apply OQ.s8 | apply OQ.s9 | apply OQ.s10 | apply OQ.s11 | apply OQ.s12 | apply OQ.s13 | apply OQ.s14 | apply OQ.s15 | apply OQ.s16 | apply OQ.s17 | apply OQ.s18 | apply OQ.s19)))).mono ?_
    rintro e w2 ⟨_, r, b9, rfl, ⟨s9, rfl, hC9⟩, hc, hk, hb, hg⟩
    have hO := OQ.step hk hc (by with_reducible repeat' (first | exact HO.out | apply OQ.s0 | apply OQ.s1 | apply OQ.s2 | apply OQ.s3 | apply OQ.s4 | apply OQ.s5 | apply OQ.s6 | apply OQ.s7 | apply OQ.s8 | apply OQ.s9 | apply OQ.s10 | apply OQ.s11 | apply OQ.s12 | apply OQ.s13 | apply OQ.s14 | apply OQ.s15 | apply OQ.s16 | apply OQ.s17 | apply OQ.s18 | apply OQ.s19))
    clear hS hFz
    have HO := Lib.hid hO
    have hS := HO.out.cells
    have hFz := HO.out.free
    have hG : b9 = false → bad = false ∧ fieldsD lim bs = G10 lim (UInt8.ofNat C0) s1 x2.toNat x3.toNat C4 s5 x6.toNat x7.toNat (UInt8.ofNat C8) s9 r := fun h => by
      obtain ⟨h1, y, he, hd⟩ := hg h
      obtain ⟨h2, h3⟩ := HG.out h1
      obtain rfl := text_back he
      exact ⟨h2, h3.trans (G9_some hd)⟩
    have hB : b9 = true → BadO bad bs := fun h => by
      rcases hb h with h1 | h1
      · exact HB.out h1
      · by_cases hp : b8 = true
        · exact HB.out hp
        · obtain ⟨_, h3⟩ := HG.out (by simpa using hp)
          exact .inr (h3.trans (G9_none h1))
    have HM9 := Lib.hid (show b9 = false → b8 = false from fun h => (hg h).1)
    have HX9 := Lib.hid hC9
    clear hC9
    have HG := Lib.hid hG
    have HB := Lib.hid hB
    clear hO hc hk hb hg hG hB
    go_wp2_with fail
    refine (qtext_any _ B p _ _ (OQ.cur (w0 := w) (q := w.heap.size) (by with_reducible repeat' (first | exact HO.out | apply OQ.s0 | apply OQ.s1 | apply OQ.s2 | apply OQ.s3 | apply OQ.s4 | apply OQ.s5 | apply OQ.s6 | apply OQ.s7 | apply OQ.s8 | apply OQ.s9 | apply OQ.s10 | apply OQ.s11 | apply OQ.s12 | apply OQ.s13 | apply OQ.s14 | apply OQ.s15 | apply OQ.s16 | apply OQ.s17 | apply OQ.s18 | apply OQ.s19)))).mono ?_
    rintro e w2 ⟨_, r, b10, rfl, ⟨s10, rfl, hC10⟩, hc, hk, hb, hg⟩
    have hO := OQ.step hk hc (by with_reducible repeat' (first | exact HO.out | apply OQ.s0 | apply OQ.s1 | apply OQ.s2 | apply OQ.s3 | apply OQ.s4 | apply OQ.s5 | apply OQ.s6 | apply OQ.s7 | apply OQ.s8 | apply OQ.s9 | apply OQ.s10 | apply OQ.s11 | apply OQ.s12 | apply OQ.s13 | apply OQ.s14 | apply OQ.s15 | apply OQ.s16 | apply OQ.s17 | apply OQ.s18 | apply OQ.s19))
    clear hS hFz
    have HO := Lib.hid hO
    have hS := HO.out.cells
    have hFz := HO.out.free
    have hG : b10 = false → bad = false ∧ fieldsD lim bs = G11 lim (UInt8.ofNat C0) s1 x2.toNat x3.toNat C4 s5 x6.toNat x7.toNat (UInt8.ofNat C8) s9 s10 r := fun h => by
      obtain ⟨h1, y, he, hd⟩ := hg h
      obtain ⟨h2, h3⟩ := HG.out h1
      obtain rfl := text_back he
      exact ⟨h2, h3.trans (G10_some hd)⟩
    have hB : b10 = true → BadO bad bs := fun h => by
      rcases hb h with h1 | h1
      · exact HB.out h1
      · by_cases hp : b9 = true
        · exact HB.out hp
        · obtain ⟨_, h3⟩ := HG.out (by simpa using hp)
          exact .inr (h3.trans (G10_none h1))
    have HM10 := Lib.hid (show b10 = false → b9 = false from fun h => (hg h).1)
    have HX10 := Lib.hid hC10
    clear hC10
    have HG := Lib.hid hG
    have HB := Lib.hid hB
    clear hO hc hk hb hg hG hB
    go_wp2_with fail
    refine (qtext_any _ B p _ _ (OQ.cur (w0 := w) (q := w.heap.size) (by with_reducible repeat' (first | exact HO.out | apply OQ.s0 | apply OQ.s1 | apply OQ.s2 | apply OQ.s3 | apply OQ.s4 | apply OQ.s5 | apply OQ.s6 | apply OQ.s7 | apply OQ.s8 | apply OQ.s9 | apply OQ.s10 | apply OQ.s11 | apply OQ.s12 | apply OQ.s13 | apply OQ.s14 | apply OQ.s15 | apply OQ.s16 | apply OQ.s17 | apply OQ.s18 | apply OQ.s19)))).mono ?_
    rintro e w2 ⟨_, r, b11, rfl, ⟨s11, rfl, hC11⟩, hc, hk, hb, hg⟩
    have hO := OQ.step hk hc (by with_reducible repeat' (first | exact HO.out | apply OQ.s0 | apply OQ.s1 | apply OQ.s2 | apply OQ.s3 | apply OQ.s4 | apply OQ.s5 | apply OQ.s6 | apply OQ.s7 | apply OQ.s8 | apply OQ.s9 | apply OQ.s10 | apply OQ.s11 | apply OQ.s12 | apply OQ.s13 | apply OQ.s14 | apply OQ.s15 | apply OQ.s16 | apply OQ.s17 | apply OQ.s18 | apply OQ.s19))
    clear hS hFz
    have HO := Lib.hid hO
    have hS := HO.out.cells
    have hFz := HO.out.free
    have hG : b11 = false → bad = false ∧ fieldsD lim bs = G12 lim (UInt8.ofNat C0) s1 x2.toNat x3.toNat C4 s5 x6.toNat x7.toNat (UInt8.ofNat C8) s9 s10 s11 r := fun h => by
      obtain ⟨h1, y, he, hd⟩ := hg h
      obtain ⟨h2, h3⟩ := HG.out h1
      obtain rfl := text_back he
      exact ⟨h2, h3.trans (G11_some hd)⟩
    have hB : b11 = true → BadO bad bs := fun h => by
      rcases hb h with h1 | h1
      · exact HB.out h1
      · by_cases hp : b10 = true
        · exact HB.out hp
        · obtain ⟨_, h3⟩ := HG.out (by simpa using hp)
          exact .inr (h3.trans (G11_none h1))
    have HM11 := Lib.hid (show b11 = false → b10 = false from fun h => (hg h).1)
    have HX11 := Lib.hid hC11
    clear hC11
    have HG := Lib.hid hG
    have HB := Lib.hid hB
    clear hO hc hk hb hg hG hB
    go_wp2_with fail
    refine (qtext_any _ B p _ _ (OQ.cur (w0 := w) (q := w.heap.size) (by with_reducible repeat' (first | exact HO.out | apply OQ.s0 | apply OQ.s1 | apply OQ.s2 | apply OQ.s3 | apply OQ.s4 | apply OQ.s5 | apply OQ.s6 | apply OQ.s7 | apply OQ.s8 | apply OQ.s9 | apply OQ.s10 | apply OQ.s11 | apply OQ.s12 | apply OQ.s13 | apply OQ.s14 | apply OQ.s15 | apply OQ.s16 | apply OQ.s17 | apply OQ.s18 | apply OQ.s19)))).mono ?_
    rintro e w2 ⟨_, r, b12, rfl, ⟨s12, rfl, hC12⟩, hc, hk, hb, hg⟩
    have hO := OQ.step hk hc (by with_reducible repeat' (first | exact HO.out | apply OQ.s0 | apply OQ.s1 | apply OQ.s2 | apply OQ.s3 | apply OQ.s4 | apply OQ.s5 | apply OQ.s6 | apply OQ.s7 | apply OQ.s8 | apply OQ.s9 | apply OQ.s10 | apply OQ.s11 | apply OQ.s12 | apply OQ.s13 | apply OQ.s14 | apply OQ.s15 | apply OQ.s16 | apply OQ.s17 | apply OQ.s18 | apply OQ.s19))
    clear hS hFz
    have HO := Lib.hid hO
    have hS := HO.out.cells
    have hFz := HO.out.free
    have hG : b12 = false → bad = false ∧ fieldsD lim bs = G13 lim (UInt8.ofNat C0) s1 x2.toNat x3.toNat C4 s5 x6.toNat x7.toNat (UInt8.ofNat C8) s9 s10 s11 s12 r := fun h => by
      obtain ⟨h1, y, he, hd⟩ := hg h
      obtain ⟨h2, h3⟩ := HG.out h1
      obtain rfl := text_back he
      exact ⟨h2, h3.trans (G12_some hd)⟩
    have hB : b12 = true → BadO bad bs := fun h => by
      rcases hb h with h1 | h1
      · exact HB.out h1
      · by_cases hp : b11 = true
        · exact HB.out hp
        · obtain ⟨_, h3⟩ := HG.out (by simpa using hp)
          exact .inr (h3.trans (G12_none h1))
    have HM12 := Lib.hid (show b12 = false → b11 = false from fun h => (hg h).1)
    have HX12 := Lib.hid hC12
    clear hC12
    have HG := Lib.hid hG
    have HB := Lib.hid hB
    clear hO hc hk hb hg hG hB
    go_wp2_with fail
    refine (qtext_any _ B p _ _ (OQ.cur (w0 := w) (q := w.heap.size) (by with_reducible repeat' (first | exact HO.out | apply OQ.s0 | apply OQ.s1 | apply OQ.s2 | apply OQ.s3 | apply OQ.s4 | apply OQ.s5 | apply OQ.s6 | apply OQ.s7 | apply OQ.s8 | apply OQ.s9 | apply OQ.s10 | apply OQ.s11 | apply OQ.s12 | apply OQ.s13 | apply OQ.s14 | apply OQ.s15 | apply OQ.s16 | apply OQ.s17 | apply OQ.s18 | apply OQ.s19)))).mono ?_
    rintro e w2 ⟨_, r, b13, rfl, ⟨s13, rfl, hC13⟩, hc, hk, hb, hg⟩
    have hO := OQ.step hk hc (by with_reducible repeat' (first | exact HO.out | apply OQ.s0 | apply OQ.s1 | apply OQ.s2 | apply OQ.s3 | apply OQ.s4 | apply OQ.s5 | apply OQ.s6 | apply OQ.s7 | apply OQ.s8 | apply OQ.s9 | apply OQ.s10 | apply OQ.s11 | apply OQ.s12 | apply OQ.s13 | apply OQ.s14 | apply OQ.s15 | apply OQ.s16 | apply OQ.s17 | apply OQ.s18 | apply OQ.s19))
    clear hS hFz
    have HO := Lib.hid hO
    have hS := HO.out.cells
    have hFz := HO.out.free
    have hG : b13 = false → bad = false ∧ fieldsD lim bs = G14 lim (UInt8.ofNat C0) s1 x2.toNat x3.toNat C4 s5 x6.toNat x7.toNat (UInt8.ofNat C8) s9 s10 s11 s12 s13 r := fun h => by
      obtain ⟨h1, y, he, hd⟩ := hg h
      obtain ⟨h2, h3⟩ := HG.out h1
      obtain rfl := text_back he
      exact ⟨h2, h3.trans (G13_some hd)⟩
    have hB : b13 = true → BadO bad bs := fun h => by
      rcases hb h with h1 | h1
      · exact HB.out h1
      · by_cases hp : b12 = true
        · exact HB.out hp
        · obtain ⟨_, h3⟩ := HG.out (by simpa using hp)
          exact .inr (h3.trans (G13_none h1))
    have HM13 := Lib.hid (show b13 = false → b12 = false from fun h => (hg h).1)
    have HX13 := Lib.hid hC13
    clear hC13
    have HG := Lib.hid hG
    have HB := Lib.hid hB
    clear hO hc hk hb hg hG hB
    go_wp2_with fail
    refine (qbyte_any _ B p _ _ (OQ.cur (w0 := w) (q := w.heap.size) (by with_reducible repeat' (first | exact HO.out | apply OQ.s0 | apply OQ.s1 | apply OQ.s2 | apply OQ.s3 | apply OQ.s4 | apply OQ.s5 | apply OQ.s6 | apply OQ.s7 | apply OQ.s8 | apply OQ.s9 | apply OQ.s10 | apply OQ.s11 | apply OQ.s12 | apply OQ.s13 | apply OQ.s14 | apply OQ.s15 | apply OQ.s16 | apply OQ.s17 | apply OQ.s18 | apply OQ.s19)))).mono ?_
    rintro e w2 ⟨_, r, b14, rfl, ⟨C14, rfl, hC14⟩, hc, hk, hb, hg⟩
    have hO := OQ.step hk hc (by with_reducible repeat' (first | exact HO.out | apply OQ.s0 | apply OQ.s1 | apply OQ.s2 | apply OQ.s3 | apply OQ.s4 | apply OQ.s5 | apply OQ.s6 | apply OQ.s7 | apply OQ.s8 | apply OQ.s9 | apply OQ.s10 | apply OQ.s11 | apply OQ.s12 | apply OQ.s13 | apply OQ.s14 | apply OQ.s15 | apply OQ.s16 | apply OQ.s17 | apply OQ.s18 | apply OQ.s19))
    clear hS hFz
    have HO := Lib.hid hO
    have hS := HO.out.cells
    have hFz := HO.out.free
    have hG : b14 = false → bad = false ∧ fieldsD lim bs = G15 lim (UInt8.ofNat C0) s1 x2.toNat x3.toNat C4 s5 x6.toNat x7.toNat (UInt8.ofNat C8) s9 s10 s11 s12 s13 (UInt8.ofNat C14) r := fun h => by
      obtain ⟨h1, y, he, hd⟩ := hg h
      obtain ⟨h2, h3⟩ := HG.out h1
      obtain ⟨rfl, _⟩ := byte_back he
      exact ⟨h2, h3.trans (G14_some hd)⟩
    have hB : b14 = true → BadO bad bs := fun h => by
      rcases hb h with h1 | h1
      · exact HB.out h1
      · by_cases hp : b13 = true
        · exact HB.out hp
        · obtain ⟨_, h3⟩ := HG.out (by simpa using hp)
          exact .inr (h3.trans (G14_none h1))
    have HM14 := Lib.hid (show b14 = false → b13 = false from fun h => (hg h).1)
    have HX14 := Lib.hid (show b14 = false → C14 = (UInt8.ofNat C14).toNat from fun h => by obtain ⟨_, y, he, _⟩ := hg h; obtain ⟨e1, e2⟩ := byte_back he; rw [← e1]; exact e2)
    have HG := Lib.hid hG
    have HB := Lib.hid hB
    clear hO hc hk hb hg hG hB
    go_wp2_with fail
    refine (qnum_any _ B p _ _ (OQ.cur (w0 := w) (q := w.heap.size) (by with_reducible repeat' (first | exact HO.out | apply OQ.s0 | apply OQ.s1 | apply OQ.s2 | apply OQ.s3 | apply OQ.s4 | apply OQ.s5 | apply OQ.s6 | apply OQ.s7 | apply OQ.s8 | apply OQ.s9 | apply OQ.s10 | apply OQ.s11 | apply OQ.s12 | apply OQ.s13 | apply OQ.s14 | apply OQ.s15 | apply OQ.s16 | apply OQ.s17 | apply OQ.s18 | apply OQ.s19)))).mono ?_
    rintro e w2 ⟨_, r, b15, rfl, ⟨x15, rfl⟩, hc, hk, hb, hg⟩
    have hO := OQ.step hk hc (by with_reducible repeat' (first | exact HO.out | apply OQ.s0 | apply OQ.s1 | apply OQ.s2 | apply OQ.s3 | apply OQ.s4 | apply OQ.s5 | apply OQ.s6 | apply OQ.s7 | apply OQ.s8 | apply OQ.s9 | apply OQ.s10 | apply OQ.s11 | apply OQ.s12 | apply OQ.s13 | apply OQ.s14 | apply OQ.s15 | apply OQ.s16 | apply OQ.s17 | apply OQ.s18 | apply OQ.s19))
    clear hS hFz
    have HO := Lib.hid hO
    have hS := HO.out.cells
    have hFz := HO.out.free
    have hG : b15 = false → bad = false ∧ fieldsD lim bs = G16 lim (UInt8.ofNat C0) s1 x2.toNat x3.toNat C4 s5 x6.toNat x7.toNat (UInt8.ofNat C8) s9 s10 s11 s12 s13 (UInt8.ofNat C14) x15.toNat r := fun h => by
      obtain ⟨h1, y, he, hd⟩ := hg h
      obtain ⟨h2, h3⟩ := HG.out h1
      obtain ⟨rfl, _⟩ := num_back he
      exact ⟨h2, h3.trans (G15_some hd)⟩
    have hB : b15 = true → BadO bad bs := fun h => by
      rcases hb h with h1 | h1
      · exact HB.out h1
      · by_cases hp : b14 = true
        · exact HB.out hp
        · obtain ⟨_, h3⟩ := HG.out (by simpa using hp)
          exact .inr (h3.trans (G15_none h1))
    have HM15 := Lib.hid (show b15 = false → b14 = false from fun h => (hg h).1)
    have HX15 := Lib.hid (show b15 = false → x15 = ((x15.toNat : Nat) : Int) from fun h => by obtain ⟨_, y, he, _⟩ := hg h; exact (num_back he).2)
    have HG := Lib.hid hG
    have HB := Lib.hid hB
    clear hO hc hk hb hg hG hB
    go_wp2_with fail
    refine (qnum_any _ B p _ _ (OQ.cur (w0 := w) (q := w.heap.size) (by with_reducible repeat' (first | exact HO.out | apply OQ.s0 | apply OQ.s1 | apply OQ.s2 | apply OQ.s3 | apply OQ.s4 | apply OQ.s5 | apply OQ.s6 | apply OQ.s7 | apply OQ.s8 | apply OQ.s9 | apply OQ.s10 | apply OQ.s11 | apply OQ.s12 | apply OQ.s13 | apply OQ.s14 | apply OQ.s15 | apply OQ.s16 | apply OQ.s17 | apply OQ.s18 | apply OQ.s19)))).mono ?_
    rintro e w2 ⟨_, r, b16, rfl, ⟨x16, rfl⟩, hc, hk, hb, hg⟩
    have hO := OQ.step hk hc (by with_reducible repeat' (first | exact HO.out | apply OQ.s0 | apply OQ.s1 | apply OQ.s2 | apply OQ.s3 | apply OQ.s4 | apply OQ.s5 | apply OQ.s6 | apply OQ.s7 | apply OQ.s8 | apply OQ.s9 | apply OQ.s10 | apply OQ.s11 | apply OQ.s12 | apply OQ.s13 | apply OQ.s14 | apply OQ.s15 | apply OQ.s16 | apply OQ.s17 | apply OQ.s18 | apply OQ.s19))
    clear hS hFz
    have HO := Lib.hid hO
    have hS := HO.out.cells
    have hFz := HO.out.free
    have hG : b16 = false → bad = false ∧ fieldsD lim bs = G17 lim (UInt8.ofNat C0) s1 x2.toNat x3.toNat C4 s5 x6.toNat x7.toNat (UInt8.ofNat C8) s9 s10 s11 s12 s13 (UInt8.ofNat C14) x15.toNat x16.toNat r := fun h => by
      obtain ⟨h1, y, he, hd⟩ := hg h
      obtain ⟨h2, h3⟩ := HG.out h1
      obtain ⟨rfl, _⟩ := num_back he
      exact ⟨h2, h3.trans (G16_some hd)⟩
    have hB : b16 = true → BadO bad bs := fun h => by
      rcases hb h with h1 | h1
      · exact HB.out h1
      · by_cases hp : b15 = true
        · exact HB.out hp
        · obtain ⟨_, h3⟩ := HG.out (by simpa using hp)
          exact .inr (h3.trans (G16_none h1))
    have HM16 := Lib.hid (show b16 = false → b15 = false from fun h => (hg h).1)
    have HX16 := Lib.hid (show b16 = false → x16 = ((x16.toNat : Nat) : Int) from fun h => by obtain ⟨_, y, he, _⟩ := hg h; exact (num_back he).2)
    have HG := Lib.hid hG
    have HB := Lib.hid hB
    clear hO hc hk hb hg hG hB
    go_wp2_with (refine wpList_loadObj rfl _ rfl (w.heap.size + 1) rfl _ (OQ.cells (B := B) (w0 := w) (p := p) (q := w.heap.size) (by with_reducible repeat' (first | exact HO.out | apply OQ.s0 | apply OQ.s1 | apply OQ.s2 | apply OQ.s3 | apply OQ.s4 | apply OQ.s5 | apply OQ.s6 | apply OQ.s7 | apply OQ.s8 | apply OQ.s9 | apply OQ.s10 | apply OQ.s11 | apply OQ.s12 | apply OQ.s13 | apply OQ.s14 | apply OQ.s15 | apply OQ.s16 | apply OQ.s17 | apply OQ.s18 | apply OQ.s19))) ?_)
    refine (rightR_any _ _ (fits_of HX1.out HX5.out HX9.out HX10.out HX11.out HX12.out HX13.out)).mono ?_
    rintro e w3 ⟨rfl, hb⟩
    have hO := OQ.below (B := B) (w0 := w) (p := p) (q := w.heap.size) hb (by with_reducible repeat' (first | exact HO.out | apply OQ.s0 | apply OQ.s1 | apply OQ.s2 | apply OQ.s3 | apply OQ.s4 | apply OQ.s5 | apply OQ.s6 | apply OQ.s7 | apply OQ.s8 | apply OQ.s9 | apply OQ.s10 | apply OQ.s11 | apply OQ.s12 | apply OQ.s13 | apply OQ.s14 | apply OQ.s15 | apply OQ.s16 | apply OQ.s17 | apply OQ.s18 | apply OQ.s19))
    clear hb
    have HO := Lib.hid hO
    clear hS hFz hO
    have HE : b16 = false → objOf (UInt8.ofNat C0) s1 x2.toNat x3.toNat C4 s5 x6.toNat x7.toNat (UInt8.ofNat C8) s9 s10 s11 s12 s13 (UInt8.ofNat C14) x15.toNat x16.toNat = (⟨(C0 : Int), s1, x2, x3, bits .and .u8 (C4 : Int) 1 != 0, bits .and .u8 (C4 : Int) 2 != 0, s5, x6, x7, (C8 : Int), bits .and .u8 (C4 : Int) 4 != 0, bits .and .u8 (C4 : Int) 8 != 0, s9, s10, s11, s12, s13, (C14 : Int), x15, x16⟩ : Obj) := fun m16 => by
      have m15 := HM16.out m16
      have m14 := HM15.out m15
      have m13 := HM14.out m14
      have m12 := HM13.out m13
      have m11 := HM12.out m12
      have m10 := HM11.out m11
      have m9 := HM10.out m10
      have m8 := HM9.out m9
      have m7 := HM8.out m8
      have m6 := HM7.out m7
      have m5 := HM6.out m6
      have mf := HM5.out m5
      rw [HBF.out] at mf; cases mf
    cases hr : rightB (⟨(C0 : Int), s1, x2, x3, bits .and .u8 (C4 : Int) 1 != 0, bits .and .u8 (C4 : Int) 2 != 0, s5, x6, x7, (C8 : Int), bits .and .u8 (C4 : Int) 4 != 0, bits .and .u8 (C4 : Int) 8 != 0, s9, s10, s11, s12, s13, (C14 : Int), x15, x16⟩ : Obj) with
    | false =>
      have HR := Lib.hid hr
      obtain ⟨c1, f1⟩ := HO.out.flag
      have HO2 := Lib.hid HO.out.setBad
      clear hr
      go_wp2_with (refine wpList_loadObj rfl _ rfl (w.heap.size + 1) rfl (⟨(C0 : Int), s1, x2, x3, bits .and .u8 (C4 : Int) 1 != 0, bits .and .u8 (C4 : Int) 2 != 0, s5, x6, x7, (C8 : Int), bits .and .u8 (C4 : Int) 4 != 0, bits .and .u8 (C4 : Int) 8 != 0, s9, s10, s11, s12, s13, (C14 : Int), x15, x16⟩ : Obj) (HO2.out.cells) ?_; refine wpList_storeObj rfl _ _ rfl w.heap.size rfl (⟨(C0 : Int), s1, x2, x3, bits .and .u8 (C4 : Int) 1 != 0, bits .and .u8 (C4 : Int) 2 != 0, s5, x6, x7, (C8 : Int), bits .and .u8 (C4 : Int) 4 != 0, bits .and .u8 (C4 : Int) 8 != 0, s9, s10, s11, s12, s13, (C14 : Int), x15, x16⟩ : Obj) rfl _ HO2.out.res (cellsO_size _) ?_)
      refine bodyPost_ret (v := .agg (cellsO (⟨(C0 : Int), s1, x2, x3, bits .and .u8 (C4 : Int) 1 != 0, bits .and .u8 (C4 : Int) 2 != 0, s5, x6, x7, (C8 : Int), bits .and .u8 (C4 : Int) 4 != 0, bits .and .u8 (C4 : Int) 8 != 0, s9, s10, s11, s12, s13, (C14 : Int), x15, x16⟩ : Obj))) (results_obj _ rfl rfl (cells_all (Wset_same (heap_lt HO2.out.res)))) rfl ?_
      refine Qd.bads rfl ⟨_, rfl⟩ (HO2.out.cur.keep2 (fun k hk => Wset_ne (by have := HO2.out.lt; have := HO2.out.cur.le; omega))) (HO2.out.kept.wset (fun hx => absurd hx (by have := HO2.out.new; omega)) _) ?_
      by_cases hp : b16 = true
      · exact (HB.out hp).imp id objD_none
      · obtain ⟨_, h3⟩ := HG.out (by simpa using hp)
        exact .inr (objD_wrong h3 (by rw [HE (by simpa using hp)]; exact HR.out))
    | true =>
      have HR := Lib.hid hr
      have HO2 := HO
      clear hr
      go_wp2_with (refine wpList_loadObj rfl _ rfl (w.heap.size + 1) rfl (⟨(C0 : Int), s1, x2, x3, bits .and .u8 (C4 : Int) 1 != 0, bits .and .u8 (C4 : Int) 2 != 0, s5, x6, x7, (C8 : Int), bits .and .u8 (C4 : Int) 4 != 0, bits .and .u8 (C4 : Int) 8 != 0, s9, s10, s11, s12, s13, (C14 : Int), x15, x16⟩ : Obj) (HO2.out.cells) ?_; refine wpList_storeObj rfl _ _ rfl w.heap.size rfl (⟨(C0 : Int), s1, x2, x3, bits .and .u8 (C4 : Int) 1 != 0, bits .and .u8 (C4 : Int) 2 != 0, s5, x6, x7, (C8 : Int), bits .and .u8 (C4 : Int) 4 != 0, bits .and .u8 (C4 : Int) 8 != 0, s9, s10, s11, s12, s13, (C14 : Int), x15, x16⟩ : Obj) rfl _ HO2.out.res (cellsO_size _) ?_)
      refine bodyPost_ret (v := .agg (cellsO (⟨(C0 : Int), s1, x2, x3, bits .and .u8 (C4 : Int) 1 != 0, bits .and .u8 (C4 : Int) 2 != 0, s5, x6, x7, (C8 : Int), bits .and .u8 (C4 : Int) 4 != 0, bits .and .u8 (C4 : Int) 8 != 0, s9, s10, s11, s12, s13, (C14 : Int), x15, x16⟩ : Obj))) (results_obj _ rfl rfl (cells_all (Wset_same (heap_lt HO2.out.res)))) rfl ?_
      exact ⟨_, r, b16, rfl, ⟨_, rfl⟩, (HO2.out.cur.keep2 (fun k hk => Wset_ne (by have := HO2.out.lt; have := HO2.out.cur.le; omega))), (HO2.out.kept.wset (fun hx => absurd hx (by have := HO2.out.new; omega)) _), fun h => (HB.out h).imp id objD_none, fun h => ⟨(HG.out h).1, (⟨(C0 : Int), s1, x2, x3, bits .and .u8 (C4 : Int) 1 != 0, bits .and .u8 (C4 : Int) 2 != 0, s5, x6, x7, (C8 : Int), bits .and .u8 (C4 : Int) 4 != 0, bits .and .u8 (C4 : Int) 8 != 0, s9, s10, s11, s12, s13, (C14 : Int), x15, x16⟩ : Obj), rfl, by rw [← HE h]; exact objD_right (HG.out h).2 (by rw [HE h]; exact HR.out)⟩⟩

end Go.Proofs.Ytgplolfkfhhddaa
