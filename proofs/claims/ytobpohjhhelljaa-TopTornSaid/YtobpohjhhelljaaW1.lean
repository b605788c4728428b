/- Layer 4 (codec): the document's small writers. -/
import Derived.Test.YtobpohjhhelljaaByt
namespace Go.Proofs.Ytobpohjhhelljaa
open Go.RowKit
set_option linter.unusedVariables false
set_option linter.unusedSimpArgs false


/-- a writer at p that has gathered bs; since w0 only it and rows of bytes have changed, and nothing below B -/
structure WAt (w0 w : World) (B p : Nat) (v : Value) (bs : Bs) : Prop where
  cells : w.heap[p]? = some (.cells #[v] 114 (0, 0))
  row : OwnB w B v bs
  base : B ≤ p
  below : Below B w0 w
  kept : KeepsB p w0 w
def WCur (w0 w : World) (B p : Nat) (bs : Bs) : Prop := ∃ v, WAt w0 w B p v bs
theorem WAt.ne {w0 w : World} {B p : Nat} {v : Value} {bs : Bs} (h : WAt w0 w B p v bs) : v.ownBlock ≠ some p := fun e => by
  obtain ⟨_, _, _, fr, hf⟩ := h.row.tb e
  rw [h.cells] at hf
  simp at hf
theorem WAt.fresh {w0 w : World} {B p : Nat} {v : Value} {bs : Bs} (h : WAt w0 w B p v bs) : WAt w w B p v bs := ⟨h.cells, h.row, h.base, Below.refl _ _, KeepsB.refl _ _⟩
theorem WAt.trans {w0 w w' : World} {B p : Nat} {v v' : Value} {bs bs' : Bs} (h : WAt w0 w B p v bs) (k : WAt w w' B p v' bs') : WAt w0 w' B p v' bs' := ⟨k.cells, k.row, k.base, h.below.trans k.below, h.kept.trans k.kept⟩
theorem WCur.trans {w0 w w' : World} {B p : Nat} {bs bs' : Bs} (h : WCur w0 w B p bs) (k : WCur w w' B p bs') : WCur w0 w' B p bs' := let ⟨_, a⟩ := h; let ⟨_, b⟩ := k; ⟨_, a.trans b⟩
theorem WCur.fresh {w0 w : World} {B p : Nat} {bs : Bs} (h : WCur w0 w B p bs) : WCur w w B p bs := let ⟨_, a⟩ := h; ⟨_, a.fresh⟩
theorem WAt.big {w0 w : World} {B p : Nat} {v : Value} {bs : Bs} (h : WAt w0 w B p v bs) : B ≤ w.heap.size := Nat.le_trans h.base (Nat.le_of_lt (heap_lt h.cells))

/-- bytes put behind, and the writer told so -/
theorem WAt.put {w0 w w1 w2 : World} {B p : Nat} {v v2 : Value} {bs bs2 : Bs} (h : WAt w0 w B p v bs) (hal : ∀ i, i < w.heap.size → w1.heap[i]? = w.heap[i]?) (hb1 : Below B w0 w1) (hk1 : KeepsB p w0 w1) (hown1 : OwnB w1 B v bs)
    (hown : OwnB w2 B v2 bs2) (hg : w1.grownBy w2 v.ownBlock) : WAt w0 (w2.setCell ⟨p, 0, none⟩ v2) B p v2 bs2 := by
  have hp := heap_lt h.cells
  have c1 : w1.heap[p]? = some (.cells #[v] 114 (0, 0)) := (hal p hp).trans h.cells
  have c2 : w2.heap[p]? = some (.cells #[v] 114 (0, 0)) := ((grownBy_keeps' hg).block p (heap_lt c1) fun e => h.ne e.symm).trans c1
  refine ⟨?_, hown.kept fun k hk => heap_setCell_ne fun e => ?_, h.base, (hb1.grown hg ?_ fun k e => (h.row.tb e).1).setCell h.base _, ?_⟩
  · rw [heap_setCell_same c2]; rfl
  · subst e
    obtain ⟨_, _, _, fr, hf⟩ := hown.tb hk
    rw [c2] at hf
    simp at hf
  · exact Nat.le_trans h.base (Nat.le_of_lt (heap_lt c1))
  · exact Keeps.setCell (hk1.trans (KeepsB.of_grown hown1 hg)) (fun _ => .inl rfl) _

theorem cells_one {c : Int} (hc : 0 ≤ c ∧ c < 256) : (#[.int .u8 c] : Array Value).toList = cellsU [u8 c] := by
  simp only [cellsU, List.map_cons, List.map_nil, cellU]
  rw [u8_nat hc]

set_option maxHeartbeats 1000000 in
theorem wbyte_any (c : Int) (hc : 0 ≤ c ∧ c < 256) (w0 w : World) (B p : Nat) (bs : Bs) (hl : bs.length ≤ 100000000000000) (h : WCur w0 w B p bs) :
    Calls Try.prog 60 #[.pointer (some ⟨p, 0, none⟩), .int .u8 c] w fun e w' => e = .returned (.tuple #[]) ∧ WCur w0 w' B p (bs ++ [u8 c]) := by
  obtain ⟨v, h⟩ := h
  have H := Lib.hid h
  obtain ⟨c0, f0⟩ := cells_of_block h.cells 0 v rfl
  have hB := h.big
  obtain ⟨a, k, rfl⟩ := h.row.lv
  clear h
  go_enter Try.func60, Try.ntmps60
  go_wp2_with (at_builtin; refine wpList_app_bytes rfl _ _ rfl B (.slice a bs.length k) bs rfl (H.out.row.alloc _) _ [u8 c] rfl (OwnB.isB (OwnB.lit [u8 c] (Nat.le_refl _) (by simp) _ (cells_one hc))) (by simp; omega) (by simp; omega) ?_)
  intro v2 w2 hown hgr
  obtain ⟨a2, k2, rfl⟩ := OwnB.lv hown
  have el : (bs ++ [u8 c]).length = bs.length + 1 := by simp
  rw [el] at hown ⊢
  have HW := Lib.hid (H.out.put (fun i hi => heap_alloc_lt hi) (H.out.below.alloc hB _) (Keeps.alloc H.out.kept _) (H.out.row.alloc _) hown hgr)
  have e2 : w2.heap[p]? = some (.cells #[.slice a bs.length k] 114 (0, 0)) := ((grownBy_keeps' hgr).block p (Nat.lt_of_lt_of_le (heap_lt H.out.cells) (by simp)) fun e => H.out.ne e.symm).trans ((heap_alloc_lt (heap_lt H.out.cells)).trans H.out.cells)
  obtain ⟨c2, f2⟩ := cells_of_block e2 0 (.slice a bs.length k) rfl
  clear hown hgr e2
  go_wp2
  exact bodyPost_end (results_none rfl _ _ _) rfl ⟨rfl, _, HW.out⟩

theorem u8_lo {n : Nat} (h : n < 128) : u8 (n : Int) = UInt8.ofNat n := by simp [u8]
theorem or128 (m : Nat) : bits .or .u8 ((m : Int) % 256) 128 = ((m % 128 + 128 : Nat) : Int) := by
  have e : ∀ n : Fin 256, bits .or .u8 ((n.val : Nat) : Int) 128 = ((n.val % 128 + 128 : Nat) : Int) := by decide +kernel
  have h := e ⟨m % 256, by omega⟩
  rw [show ((m : Int) % 256) = ((m % 256 : Nat) : Int) by omega, h]
  simp only
  omega
theorem or128_rng (m : Nat) : 0 ≤ bits .or .u8 ((m : Int) % 256) 128 ∧ bits .or .u8 ((m : Int) % 256) 128 < 256 := by rw [or128]; omega
theorem u8_or (m : Nat) : u8 (bits .or .u8 ((m : Int) % 256) 128) = UInt8.ofNat (m % 128 + 128) := by
  rw [or128]; unfold u8; rw [Int.toNat_natCast]

set_option maxHeartbeats 1000000 in
theorem wnumber_any (n : Nat) (ni : Int) (hni : ni = (n : Int)) (hn : n < 18446744073709551616) (w0 w : World) (B p : Nat) (bs : Bs) (hl : bs.length ≤ 1000000) (h : WCur w0 w B p bs) :
    Calls Try.prog 59 #[.pointer (some ⟨p, 0, none⟩), .int .u64 ni] w fun e w' => e = .returned (.tuple #[]) ∧ WCur w0 w' B p (bs ++ numE n) := by
  subst hni
  have H := Lib.hid h
  have hE := numE_64 hn
  clear h
  go_enter Try.func59, Try.ntmps59
  go_wp2
  go_loopw [1] (fun s1 wr => ∃ (m : Nat) (pre : Bs), s1 = .int .u64 (m : Int) ∧ m < 18446744073709551616 ∧ Hid (numE n = pre ++ numE m) ∧ Hid (WCur w0 wr B p (bs ++ pre))) (fun s1 _ => (intOf s1).toNat)
  case atStart => exact ⟨n, [], rfl, hn, rfl, by rw [List.append_nil]; exact H⟩
  case round =>
    obtain ⟨m, pre, rfl, hm, hpre, HC⟩ := hrel
    have hpl : pre.length ≤ 10 := by have := congrArg List.length hpre.out; rw [List.length_append] at this; omega
    by_cases hs : 127 < m
    · have e0 : decide ((127 : Int) < (m : Int)) = true := by simp; omega
      go_wp2_with (go_at_call 60; refine (wbyte_any _ (or128_rng m) w0 _ B p _ (by rw [List.length_append]; omega) HC.out).mono ?_; rintro e w2 ⟨rfl, hx⟩; have HX := Lib.hid hx; clear hx)
      go_roundw
      case rel => exact ⟨m / 128, pre ++ [UInt8.ofNat (m % 128 + 128)], by go_num, by omega, Lib.hid (by rw [hpre.out, numE_great (n := m) (by omega), List.append_assoc]; rfl), Lib.hid (by rw [← List.append_assoc, ← u8_or]; exact HX.out)⟩
      case measure => simp [intOf]; omega
    · have e0 : decide ((127 : Int) < (m : Int)) = false := by simp; omega
      go_wp2_with (go_at_call 60; refine (wbyte_any _ (by constructor <;> omega) w0 _ B p _ (by rw [List.length_append]; omega) HC.out).mono ?_; rintro e w2 ⟨rfl, hx⟩; have HX := Lib.hid hx; clear hx)
      exact bodyPost_end (results_none rfl _ _ _) rfl ⟨rfl, by rw [hpre.out, numE_small (n := m) (by omega), ← List.append_assoc, ← u8_lo (by omega)]; exact HX.out⟩

theorem WCur.strs {w0 w : World} {B p b : Nat} {bs : Bs} (h : WCur w0 w B p bs) {cs : Array Value} {t : TypeId} {fr : Nat × Nat} (hb : w0.heap[b]? = some (.cells cs t fr)) (hp : b ≠ p) (ht : t ≠ 5) : w.heap[b]? = some (.cells cs t fr) :=
  let ⟨_, a⟩ := h
  KeepsB.block a.kept hb hp ht

def textsE (ss : List ByteArray) : Bs := ss.flatMap textE
@[simp] theorem textsE_nil : textsE [] = [] := rfl
theorem textsE_snoc (ss : List ByteArray) (s : ByteArray) : textsE (ss ++ [s]) = textsE ss ++ textE s := by simp [textsE]

theorem textsE_len : ∀ (ss : List ByteArray), (∀ s ∈ ss, s.size ≤ 1000) → (textsE ss).length ≤ ss.length * 1010
  | [], _ => by simp
  | s :: t, h => by
    have h1 := textsE_len t fun x hx => h x (List.mem_cons_of_mem _ hx)
    have h2 := h s (List.mem_cons_self ..)
    have h3 := numE_64 (n := s.size) (by omega)
    have e : (textE s).length ≤ 1010 := by unfold textE; rw [List.length_append, data_length]; omega
    simp only [textsE, List.flatMap_cons, List.length_append, List.length_cons] at h1 ⊢
    omega

set_option maxHeartbeats 1000000 in
theorem wtext_any (ss : List ByteArray) (arr : Array Value) (sb : Nat) (w : World) (B p : Nat) (bs : Bs) (ha : arr.toList = ss.map .string) (hsb : w.heap[sb]? = some (.cells arr 9 (0, 0))) (hp : sb ≠ p) (hn : ss.length ≤ 10) (hz : ∀ s ∈ ss, s.size ≤ 1000) (hl : bs.length ≤ 100000) (h : WCur w w B p bs) :
    Calls Try.prog 96 #[.pointer (some ⟨p, 0, none⟩), .slice (some ⟨sb, 0, none⟩) ss.length ss.length] w fun e w' => e = .returned (.tuple #[]) ∧ WCur w w' B p (bs ++ textsE ss) := by
  have H := Lib.hid h
  have HS := Lib.hid hsb
  have HZ := Lib.hid hz
  have HA := Lib.hid ha
  clear h hz ha hsb
  go_enter Try.func96, Try.ntmps96
  go_wp2
  go_loopw [8] (fun s8 wr => ∃ k : Nat, k ≤ ss.length ∧ s8 = .int .i64 (k : Int) ∧ Hid (WCur w wr B p (bs ++ textsE (ss.take k)))) (fun s8 _ => ss.length - (intOf s8).toNat)
  case atStart => exact ⟨0, Nat.zero_le _, rfl, by simpa using H⟩
  case round =>
    obtain ⟨k, hk, rfl, HC⟩ := hrel
    by_cases hlt : k < ss.length
    · obtain ⟨s, hs⟩ : ∃ s, ss[k] = s := ⟨_, rfl⟩
      have hss : s.size ≤ 1000 := HZ.out s (by rw [← hs]; simp)
      have hcell : wr.cell? ⟨sb, k, none⟩ = some (.string s) := by
        have e := HC.out.strs HS.out hp (by decide)
        simp only [World.cell?, e]
        have : arr.toList[k]? = some (.string s) := by rw [HA.out, List.getElem?_map, List.getElem?_eq_getElem hlt, hs]; rfl
        simpa using this
      have htl : (textsE (ss.take k)).length ≤ 20000 := by
        have := textsE_len (ss.take k) fun x hx => HZ.out x (List.mem_of_mem_take hx)
        rw [List.length_take] at this
        have : min k ss.length ≤ 10 := by omega
        omega
      have hns := numE_64 (n := s.size) (by omega)
      obtain ⟨L, hL⟩ : ∃ L, (bs ++ textsE (ss.take k)) ++ numE s.size = L := ⟨_, rfl⟩
      have hLl : L.length ≤ 200000 := by rw [← hL]; simp only [List.length_append]; omega
      have hpre : (bs ++ textsE (ss.take k)).length ≤ 1000000 := by rw [List.length_append]; omega
      have HL := Lib.hid hL
      have HP := Lib.hid hpre
      have HSS := Lib.hid hs
      clear hL htl hns hpre hs
      go_wp2_with (first
        | (go_at_call 59; refine (wnumber_any s.size _ (by go_num) (by omega) w _ B p _ HP.out HC.out).mono ?_; rintro e w2 ⟨rfl, hx⟩; rw [HL.out] at hx; obtain ⟨v3, hx⟩ := hx; obtain ⟨a3, k3, rfl⟩ := hx.row.lv; obtain ⟨q0, r0⟩ := cells_of_block hx.cells 0 (.slice a3 L.length k3) rfl; have HX := Lib.hid hx; clear hx)
        | (at_builtin; refine wpList_app_text rfl _ _ rfl B (.slice a3 L.length k3) L rfl HX.out.row s rfl (by omega) HX.out.big ?_))
      intro v4 w4 hown hgr
      obtain ⟨a4, k4, rfl⟩ := OwnB.lv hown
      have el : (L ++ s.data.toList).length = L.length + s.size := by rw [List.length_append, data_length]
      rw [el] at hown ⊢
      have HW := Lib.hid (HX.out.put (fun i hi => rfl) HX.out.below HX.out.kept HX.out.row hown hgr)
      have e2 : w4.heap[p]? = some (.cells #[.slice a3 L.length k3] 114 (0, 0)) := ((grownBy_keeps' hgr).block p (heap_lt HX.out.cells) fun e => HX.out.ne e.symm).trans HX.out.cells
      obtain ⟨c2, f2⟩ := cells_of_block e2 0 (.slice a3 L.length k3) rfl
      clear hown hgr e2
      go_wp2
      go_roundw
      case rel => exact ⟨k + 1, by omega, by go_num, Lib.hid ⟨_, by rw [List.take_succ_eq_append_getElem hlt, HSS.out, textsE_snoc, ← List.append_assoc, textE, ← List.append_assoc, HL.out]; exact HW.out⟩⟩
      case measure => simp [intOf]; omega
    · obtain rfl : k = ss.length := by omega
      go_wp2
      exact bodyPost_end (results_none rfl _ _ _) rfl ⟨rfl, by have := HC.out; rwa [List.take_length] at this⟩



/-- the flags of the first k -/
def flagN (l : List Bool) : Nat → Nat
  | 0 => 0
  | k + 1 => flagN l k + bitE (l.getD k false) (2 ^ k)
theorem flagN_lt (l : List Bool) : ∀ k, flagN l k < 2 ^ k
  | 0 => by simp [flagN]
  | k + 1 => by
    have := flagN_lt l k
    simp only [flagN, bitE, Nat.pow_succ]
    split <;> omega

theorem or_pow {k X : Nat} (hk : k < 8) (hX : X < 2 ^ k) : bits .or .u8 (X : Int) (2 ^ k % 256) = ((X + 2 ^ k : Nat) : Int) := by
  have e : ∀ k : Fin 8, ∀ x : Fin 256, x.val < 2 ^ k.val → bits .or .u8 ((x.val : Nat) : Int) (2 ^ k.val % 256) = ((x.val + 2 ^ k.val : Nat) : Int) := by decide +kernel
  have h8 : X < 256 := Nat.lt_of_lt_of_le hX (Nat.pow_le_pow_right (n := 2) (by omega) (show k ≤ 8 by omega))
  exact e ⟨k, hk⟩ ⟨X, h8⟩ hX
theorem getD_at {l : List Bool} {k : Nat} (h : k < l.length) : l.getD k false = l[k] := by simp [List.getD, h]

set_option maxHeartbeats 1000000 in
theorem flags_any (l : List Bool) (arr : Array Value) (fb : Nat) (w : World) (ha : arr.toList = l.map .bool) (hfb : w.heap[fb]? = some (.cells arr 4 (0, 0))) (hn : l.length ≤ 8) :
    Calls Try.prog 61 #[.slice (some ⟨fb, 0, none⟩) l.length l.length] w fun e w' => e = .returned (.int .u8 (flagN l l.length : Int)) ∧ w' = w := by
  have HA := Lib.hid ha
  have HF := Lib.hid hfb
  clear ha hfb
  go_enter Try.func61, Try.ntmps61
  go_wp2
  go_loop [2, 7] (fun s2 s7 => ∃ k : Nat, k ≤ l.length ∧ s7 = .int .i64 (k : Int) ∧ s2 = .int .u8 (flagN l k : Int)) (fun _ s7 => l.length - (intOf s7).toNat)
  case atStart => exact ⟨0, Nat.zero_le _, rfl, rfl⟩
  case round =>
    obtain ⟨k, hk, rfl, rfl⟩ := hrel
    by_cases hlt : k < l.length
    · have hcell : w.cell? ⟨fb, k, none⟩ = some (.bool l[k]) := by
        have e := HF.out
        simp only [World.cell?, e]
        have : arr.toList[k]? = some (.bool l[k]) := by rw [HA.out, List.getElem?_map, List.getElem?_eq_getElem hlt]; rfl
        simpa using this
      have hX := flagN_lt l k
      obtain ⟨X, hXe⟩ : ∃ X, flagN l k = X := ⟨_, rfl⟩
      rw [hXe] at hX ⊢
      have HXe := Lib.hid hXe
      have hX8 : X < 256 := Nat.lt_of_lt_of_le hX (Nat.pow_le_pow_right (n := 2) (by omega) (show k ≤ 8 by omega))
      clear hXe
      cases hb : l[k]
      · rw [hb] at hcell
        have HB := Lib.hid hb
        clear hb
        go_wp2
        go_round
        case rel => exact ⟨k + 1, by omega, by go_num, by rw [flagN, getD_at hlt, HB.out, HXe.out]; rfl⟩
        case measure => simp [intOf]; omega
      · rw [hb] at hcell
        have HB := Lib.hid hb
        clear hb
        go_wp2
        go_round
        case rel => exact ⟨k + 1, by omega, by go_num, by rw [or_pow (by omega) hX, flagN, getD_at hlt, HB.out, HXe.out]; rfl⟩
        case measure => simp [intOf]; omega
    · obtain rfl : k = l.length := by omega
      go_wp2
      go_ret
      exact ⟨rfl, rfl⟩

theorem WCur.alloc {w0 w : World} {B p : Nat} {bs : Bs} (h : WCur w0 w B p bs) (o : Go.Obj) : WCur w0 (w.alloc o) B p bs :=
  let ⟨_, a⟩ := h
  ⟨_, (heap_alloc_lt (heap_lt a.cells)).trans a.cells, a.row.alloc _, a.base, a.below.alloc a.big _, Keeps.alloc a.kept _⟩
theorem WCur.ne {w0 w : World} {B p : Nat} {bs : Bs} (h : WCur w0 w B p bs) : w.heap.size ≠ p ∧ p < w.heap.size := let ⟨_, a⟩ := h; ⟨fun e => absurd (heap_lt a.cells) (by omega), heap_lt a.cells⟩
/-- an object's box, kept -/
theorem WCur.box {w0 w : World} {B p b : Nat} {bs : Bs} {o : Obj} (h : WCur w0 w B p bs) (hb : w0.heap[b]? = some (.cells (cellsO o) 31 (0, 0))) (hp : b ≠ p) : ∀ k, w.cell? ⟨b, k, none⟩ = (cellsO o)[k]? :=
  cells_all (h.strs hb hp (by decide))

theorem wnumber_int (x : Int) (hx : 0 ≤ x ∧ x < 18446744073709551616) (w0 w : World) (B p : Nat) (bs : Bs) (hl : bs.length ≤ 1000000) (h : WCur w0 w B p bs) :
    Calls Try.prog 59 #[.pointer (some ⟨p, 0, none⟩), .int .u64 x] w fun e w' => e = .returned (.tuple #[]) ∧ WCur w0 w' B p (bs ++ numE x.toNat) :=
  wnumber_any x.toNat x (by omega) (by omega) w0 w B p bs hl h
theorem wtext_one (s : ByteArray) (hs : s.size ≤ 1000) (w0 w : World) (B p : Nat) (bs : Bs) (hl : bs.length ≤ 100000) (h : WCur w0 w B p bs) :
    Calls Try.prog 96 #[.pointer (some ⟨p, 0, none⟩), .slice (some ⟨w.heap.size, 0, none⟩) 1 1] (w.alloc (.cells #[.string s] 9)) fun e w' => e = .returned (.tuple #[]) ∧ WCur w0 w' B p (bs ++ textE s) := by
  refine (wtext_any [s] #[.string s] w.heap.size _ B p bs rfl heap_alloc_eq h.ne.1 (by simp) (by simpa using hs) hl (h.alloc _).fresh).mono ?_
  rintro e w' ⟨rfl, hx⟩
  exact ⟨rfl, by have := (h.alloc _).trans hx; simpa [textsE] using this⟩
theorem wtext_five (a b c d f : ByteArray) (hs : a.size ≤ 1000 ∧ b.size ≤ 1000 ∧ c.size ≤ 1000 ∧ d.size ≤ 1000 ∧ f.size ≤ 1000) (w0 w : World) (B p : Nat) (bs : Bs) (hl : bs.length ≤ 100000) (h : WCur w0 w B p bs) :
    Calls Try.prog 96 #[.pointer (some ⟨p, 0, none⟩), .slice (some ⟨w.heap.size, 0, none⟩) 5 5] (w.alloc (.cells #[.string a, .string b, .string c, .string d, .string f] 9)) fun e w' => e = .returned (.tuple #[]) ∧ WCur w0 w' B p (bs ++ (textE a ++ (textE b ++ (textE c ++ (textE d ++ textE f))))) := by
  refine (wtext_any [a, b, c, d, f] #[.string a, .string b, .string c, .string d, .string f] w.heap.size _ B p bs rfl heap_alloc_eq h.ne.1 (by simp) (by simpa using hs) hl (h.alloc _).fresh).mono ?_
  rintro e w' ⟨rfl, hx⟩
  exact ⟨rfl, by have := (h.alloc _).trans hx; simpa [textsE] using this⟩
theorem flags_four (o : Obj) (w : World) :
    Calls Try.prog 61 #[.slice (some ⟨w.heap.size, 0, none⟩) 4 4] (w.alloc (.cells #[.bool o.deleting, .bool o.hold, .bool o.keep, .bool o.wait] 4)) fun e w' => e = .returned (.int .u8 (flagsE o : Int)) ∧ w' = w.alloc (.cells #[.bool o.deleting, .bool o.hold, .bool o.keep, .bool o.wait] 4) := by
  refine (flags_any [o.deleting, o.hold, o.keep, o.wait] _ w.heap.size _ rfl heap_alloc_eq (by simp)).mono ?_
  rintro e w' ⟨rfl, rfl⟩
  refine ⟨?_, rfl⟩
  simp [flagN, flagsE]

theorem piece_lens {o : Obj} (ht : o.Typed) (h : rightB o = true) : (textE o.name).length ≤ 41 ∧ (textE o.cls).length ≤ 41 ∧ (textE o.zone).length ≤ 41 ∧ (textE o.node).length ≤ 41 ∧ (textE o.claim).length ≤ 41 ∧ (textE o.volume).length ≤ 41 ∧ (textE o.source).length ≤ 41 ∧ (numE o.version.toNat).length ≤ 10 ∧ (numE o.born.toNat).length ≤ 10 ∧ (numE o.size.toNat).length ≤ 10 ∧ (numE o.got.toNat).length ≤ 10 ∧ (numE o.num.toNat).length ≤ 10 ∧ (numE o.tag.toNat).length ≤ 10 := by
  obtain ⟨hn, hx⟩ := right_texts h
  obtain ⟨hs, hg⟩ := right_sizes h
  obtain ⟨t1, t2, t3, t4, t5, t6, t7⟩ := ht
  exact ⟨(textE_len hn).2, (textE_len (hx o.cls (by simp [textsO]))).2, (textE_len (hx o.zone (by simp [textsO]))).2, (textE_len (hx o.node (by simp [textsO]))).2, (textE_len (hx o.claim (by simp [textsO]))).2, (textE_len (hx o.volume (by simp [textsO]))).2, (textE_len (hx o.source (by simp [textsO]))).2,
    numE_64 (by omega), numE_64 (by omega), numE_64 (by omega), numE_64 (by omega), numE_64 (by omega), numE_64 (by omega)⟩



/-- new bytes -/
def RB (w w' : World) (e : Ending) (bs : Bs) : Prop := ∃ v, e = .returned v ∧ OwnB w' w.heap.size v bs ∧ Below w.heap.size w w'

theorem u8_ofNat (n : Nat) : u8 (n : Int) = UInt8.ofNat n := by simp [u8]
theorem OwnB.none (w : World) (B : Nat) : OwnB w B (.slice none 0 0) [] := ⟨rfl, Or.inl ⟨rfl, rfl⟩⟩

/-- bytes and the error, of what is right or not -/
def BytesR (w w' : World) (e : Ending) (ok : Bool) (bs : Bs) : Prop := ∃ v, e = .returned (.tuple #[v, .int .i64 (if ok then 0 else 2)]) ∧ OwnB w' w.heap.size v (if ok then bs else []) ∧ Below w.heap.size w w'
theorem BytesR.no {w w' : World} {ok : Bool} {bs : Bs} (h : ok = false) (hb : Below w.heap.size w w') : BytesR w w' (.returned (.tuple #[.slice none 0 0, .int .i64 2])) ok bs := by
  subst h; exact ⟨_, rfl, OwnB.none _ _, hb⟩
theorem BytesR.yes {w w' : World} {ok : Bool} {bs : Bs} {B : Nat} {v : Value} (h : ok = true) (ho : OwnB w' B v bs) (hB : w.heap.size ≤ B) (hb : Below w.heap.size w w') : BytesR w w' (.returned (.tuple #[v, .int .i64 0])) ok bs := by
  subst h; exact ⟨v, rfl, OwnB.mono ho hB, hb⟩

abbrev to8 (k : Int) : UInt8 := u8 k
theorem orb (m : Nat) : bits .or .u8 ((m : Int) % 128) 128 = ((m % 128 + 128 : Nat) : Int) := by
  have e : ∀ n : Fin 128, bits .or .u8 ((n.val : Nat) : Int) 128 = ((n.val + 128 : Nat) : Int) := by decide +kernel
  have h := e ⟨m % 128, by omega⟩
  rw [show ((m : Int) % 128) = ((m % 128 : Nat) : Int) by omega, h]
theorem orb_rng (m : Nat) : 0 ≤ bits .or .u8 ((m : Int) % 128) 128 ∧ bits .or .u8 ((m : Int) % 128) 128 < 256 := by rw [orb]; omega
theorem to8_orb (m : Nat) : to8 (bits .or .u8 ((m : Int) % 128) 128) = UInt8.ofNat (m % 128 + 128) := by rw [orb]; exact u8_ofNat _

set_option maxHeartbeats 1000000 in
theorem rnumber_any (n : Nat) (ni : Int) (hni : ni = (n : Int)) (hn : n < 18446744073709551616) (w : World) :
    Calls Try.prog 103 #[.int .u64 ni] w fun e w' => RB w w' e (numE n) := by
  subst hni
  have hE := numE_64 hn
  go_enter Try.func103, Try.ntmps103
  go_wp2
  go_loopw [0, 3] (fun s0 s3 wr => ∃ (m : Nat) (pre : Bs), s0 = .int .u64 (m : Int) ∧ m < 18446744073709551616 ∧ Hid (numE n = pre ++ numE m) ∧ Hid (OwnB wr w.heap.size s3 pre) ∧ Hid (Below w.heap.size w wr)) (fun s0 _ _ => (intOf s0).toNat)
  case atStart => exact ⟨n, [], rfl, hn, Lib.hid rfl, Lib.hid (OwnB.none _ _), Lib.hid (Below.refl _ _)⟩
  case round =>
    obtain ⟨m, pre, rfl, hm, hpre, HO, HB⟩ := hrel
    have hpl : pre.length ≤ 10 := by have := congrArg List.length hpre.out; rw [List.length_append] at this; omega
    obtain ⟨a, k, rfl⟩ := OwnB.lv HO.out
    have hBs := HB.out.size
    by_cases hs : 128 ≤ m
    · have e0 : decide ((128 : Int) ≤ (m : Int)) = true := by simp; omega
      go_wp2_with (at_builtin; refine wpList_app_bytes rfl _ _ rfl w.heap.size (.slice a pre.length k) pre rfl (HO.out.alloc _) _ [to8 (bits .or .u8 ((m : Int) % 128) 128)] rfl (OwnB.isB (OwnB.lit [to8 (bits .or .u8 ((m : Int) % 128) 128)] (Nat.le_refl _) (by simp) _ (cells_one (orb_rng m)))) (by simp; omega) (by simp; omega) ?_)
      intro v2 w2 hown hgr
      have hb2 := (HB.out.alloc hBs (.cells #[.int .u8 (bits .or .u8 ((m : Int) % 128) 128)] 5)).grown hgr (by simp; omega) (fun j e => (HO.out.tb e).1)
      have HOW := Lib.hid hown
      have HB2 := Lib.hid hb2
      clear hown hgr hb2
      go_wp2
      go_roundw
      case rel => exact ⟨m / 128, pre ++ [to8 (bits .or .u8 ((m : Int) % 128) 128)], by go_num, by omega, Lib.hid (by rw [hpre.out, numE_great (n := m) (by omega), List.append_assoc, to8_orb]; rfl), HOW, HB2⟩
      case measure => simp [intOf]; omega
    · have e0 : decide ((128 : Int) ≤ (m : Int)) = false := by simp; omega
      go_wp2_with (at_builtin; refine wpList_app_bytes rfl _ _ rfl w.heap.size (.slice a pre.length k) pre rfl (HO.out.alloc _) _ [to8 (m : Int)] rfl (OwnB.isB (OwnB.lit [to8 (m : Int)] (Nat.le_refl _) (by simp) _ (cells_one (by omega)))) (by simp; omega) (by simp; omega) ?_)
      intro v2 w2 hown hgr
      have hb2 := (HB.out.alloc hBs (.cells #[.int .u8 (m : Int)] 5)).grown hgr (by simp; omega) (fun j e => (HO.out.tb e).1)
      have HOW := Lib.hid hown
      have HB2 := Lib.hid hb2
      clear hown hgr hb2
      go_wp2
      go_ret
      exact ⟨v2, rfl, by rw [hpre.out, numE_small (n := m) (by omega), ← u8_lo (by omega)]; exact HOW.out, HB2.out⟩

set_option maxHeartbeats 1000000 in
theorem rtext_any (s : ByteArray) (hs : s.size ≤ 1000000) (w : World) :
    Calls Try.prog 128 #[.string s] w fun e w' => RB w w' e (textE s) := by
  go_enter Try.func128, Try.ntmps128
  have hns := numE_64 (n := s.size) (by omega)
  go_wp2_with (first
    | (go_at_call 103; refine (rnumber_any s.size _ (by go_num) (by omega) _).mono ?_; rintro e w1 ⟨v, rfl, hown, hb⟩; obtain ⟨a, k, rfl⟩ := OwnB.lv hown; have HO := Lib.hid hown; have HB := Lib.hid hb; have hBs := hb.size; clear hown hb)
    | (at_builtin; refine wpList_app_text rfl _ _ rfl w.heap.size (.slice a (numE s.size).length k) (numE s.size) rfl HO.out s rfl (by omega) hBs ?_))
  intro v2 w2 hown hgr
  have hb2 := HB.out.grown hgr hBs (fun j e => (HO.out.tb e).1)
  have HOW := Lib.hid hown
  have HB2 := Lib.hid hb2
  clear hown hgr hb2
  go_wp2
  go_ret
  exact ⟨v2, rfl, HOW.out, HB2.out⟩

theorem rbit_any (g : Bool) (k : Int) (w : World) :
    Calls Try.prog 104 #[.bool g, .int .u8 k] w fun e w' => e = .returned (.int .u8 (if g then k else 0)) ∧ w' = w := by
  cases g <;> (go_enter Try.func104, Try.ntmps104; go_wp2; go_ret; exact ⟨rfl, rfl⟩)

end Go.Proofs.Ytobpohjhhelljaa
