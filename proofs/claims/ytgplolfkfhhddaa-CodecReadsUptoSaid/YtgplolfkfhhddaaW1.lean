/- Layer 4 (codec): the writer's small functions. -/
import Derived.Test.YtgplolfkfhhddaaByt
namespace Go.Proofs.Ytgplolfkfhhddaa
open Go.RowKit
set_option linter.unusedVariables false
set_option linter.unusedSimpArgs false

/-- a writer at p that has gathered bs; since w0 only it and rows of bytes have changed, and nothing below B -/
structure WAt (w0 w : World) (B p : Nat) (v : Value) (bs : Bs) : Prop where
  cells : w.heap[p]? = some (.cells #[v] 49 (0, 0))
  row : OwnB w B v bs
  base : B ≤ p
  below : Below B w0 w
  kept : KeepsB p w0 w
def WCur (w0 w : World) (B p : Nat) (bs : Bs) : Prop := ∃ v, WAt w0 w B p v bs
theorem WAt.ne {w0 w : World} {B p : Nat} {v : Value} {bs : Bs} (h : WAt w0 w B p v bs) : v.ownBlock ≠ some p := fun e => by
  obtain ⟨_, _, _, fr, hf⟩ := h.row.tb e
  rw [h.cells] at hf
  simp at hf
theorem WAt.fresh {w0 w : World} {B p : Nat} {v : Value} {bs : Bs} (h : WAt w0 w B p v bs) : WAt w w B p v bs := ⟨h.cells, h.row, h.base, Below.refl _ _, KeepsB.refl _ _⟩
theorem WAt.trans {w0 w w' : World} {B p : Nat} {v v' : Value} {bs bs' : Bs} (h : WAt w0 w B p v bs) (k : WAt w w' B p v' bs') : WAt w0 w' B p v' bs' := ⟨k.cells, k.row, k.base, h.below.trans k.below, h.kept.trans k.kept⟩
theorem WCur.trans {w0 w w' : World} {B p : Nat} {bs bs' : Bs} (h : WCur w0 w B p bs) (k : WCur w w' B p bs') : WCur w0 w' B p bs' := let ⟨_, a⟩ := h; let ⟨_, b⟩ := k; ⟨_, a.trans b⟩
theorem WCur.fresh {w0 w : World} {B p : Nat} {bs : Bs} (h : WCur w0 w B p bs) : WCur w w B p bs := let ⟨_, a⟩ := h; ⟨_, a.fresh⟩
theorem WAt.big {w0 w : World} {B p : Nat} {v : Value} {bs : Bs} (h : WAt w0 w B p v bs) : B ≤ w.heap.size := Nat.le_trans h.base (Nat.le_of_lt (heap_lt h.cells))

/-- bytes put behind, and the writer told so -/
theorem WAt.put {w0 w w1 w2 : World} {B p : Nat} {v v2 : Value} {bs bs2 : Bs} (h : WAt w0 w B p v bs) (hal : ∀ i, i < w.heap.size → w1.heap[i]? = w.heap[i]?) (hb1 : Below B w0 w1) (hk1 : KeepsB p w0 w1) (hown1 : OwnB w1 B v bs)
    (hown : OwnB w2 B v2 bs2) (hg : w1.grownBy w2 v.ownBlock) : WAt w0 (w2.setCell ⟨p, 0, none⟩ v2) B p v2 bs2 := by
  have hp := heap_lt h.cells
  have c1 : w1.heap[p]? = some (.cells #[v] 49 (0, 0)) := (hal p hp).trans h.cells
  have c2 : w2.heap[p]? = some (.cells #[v] 49 (0, 0)) := ((grownBy_keeps' hg).block p (heap_lt c1) fun e => h.ne e.symm).trans c1
  refine ⟨?_, hown.kept fun k hk => heap_setCell_ne fun e => ?_, h.base, (hb1.grown hg ?_ fun k e => (h.row.tb e).1).setCell h.base _, ?_⟩
  · rw [heap_setCell_same c2]; rfl
  · subst e
    obtain ⟨_, _, _, fr, hf⟩ := hown.tb hk
    rw [c2] at hf
    simp at hf
  · exact Nat.le_trans h.base (Nat.le_of_lt (heap_lt c1))
  · exact Keeps.setCell (hk1.trans (KeepsB.of_grown hown1 hg)) (fun _ => .inl rfl) _

theorem cells_one {c : Int} (hc : 0 ≤ c ∧ c < 256) : (#[.int .u8 c] : Array Value).toList = cellsU [u8 c] := by
  simp only [cellsU, List.map_cons, List.map_nil, cellU]
  rw [u8_nat hc]

set_option maxHeartbeats 1000000 in
theorem wbyte_any (c : Int) (hc : 0 ≤ c ∧ c < 256) (w0 w : World) (B p : Nat) (bs : Bs) (hl : bs.length ≤ 100000000000000) (h : WCur w0 w B p bs) :
    Calls Try.prog 35 #[.pointer (some ⟨p, 0, none⟩), .int .u8 c] w fun e w' => e = .returned (.tuple #[]) ∧ WCur w0 w' B p (bs ++ [u8 c]) := by
  obtain ⟨v, h⟩ := h
  have H := Lib.hid h
  obtain ⟨c0, f0⟩ := cells_of_block h.cells 0 v rfl
  have hB := h.big
  obtain ⟨a, k, rfl⟩ := h.row.lv
  clear h
  go_enter Try.func35, Try.ntmps35
  go_wp2_with (at_builtin; refine wpList_app_bytes rfl _ _ rfl B (.slice a bs.length k) bs rfl (H.out.row.alloc _) _ [u8 c] rfl (OwnB.isB (OwnB.lit [u8 c] (Nat.le_refl _) (by simp) _ (cells_one hc))) (by simp; omega) (by simp; omega) ?_)
  intro v2 w2 hown hgr
  obtain ⟨a2, k2, rfl⟩ := OwnB.lv hown
  have el : (bs ++ [u8 c]).length = bs.length + 1 := by simp
  rw [el] at hown ⊢
  have HW := Lib.hid (H.out.put (fun i hi => heap_alloc_lt hi) (H.out.below.alloc hB _) (Keeps.alloc H.out.kept _) (H.out.row.alloc _) hown hgr)
  have e2 : w2.heap[p]? = some (.cells #[.slice a bs.length k] 49 (0, 0)) := ((grownBy_keeps' hgr).block p (Nat.lt_of_lt_of_le (heap_lt H.out.cells) (by simp)) fun e => H.out.ne e.symm).trans ((heap_alloc_lt (heap_lt H.out.cells)).trans H.out.cells)
  obtain ⟨c2, f2⟩ := cells_of_block e2 0 (.slice a bs.length k) rfl
  clear hown hgr e2
  go_wp2
  exact bodyPost_end (results_none rfl _ _ _) rfl ⟨rfl, _, HW.out⟩

theorem u8_lo {n : Nat} (h : n < 128) : u8 (n : Int) = UInt8.ofNat n := by simp [u8]
theorem or128 (m : Nat) : bits .or .u8 ((m : Int) % 256) 128 = ((m % 128 + 128 : Nat) : Int) := by
  have e : ∀ n : Fin 256, bits .or .u8 ((n.val : Nat) : Int) 128 = ((n.val % 128 + 128 : Nat) : Int) := by decide +kernel
  have h := e ⟨m % 256, by omega⟩
  rw [show ((m : Int) % 256) = ((m % 256 : Nat) : Int) by omega, h]
  simp only
  omega
theorem or128_rng (m : Nat) : 0 ≤ bits .or .u8 ((m : Int) % 256) 128 ∧ bits .or .u8 ((m : Int) % 256) 128 < 256 := by rw [or128]; omega
theorem u8_or (m : Nat) : u8 (bits .or .u8 ((m : Int) % 256) 128) = UInt8.ofNat (m % 128 + 128) := by
  rw [or128]; unfold u8; rw [Int.toNat_natCast]

set_option maxHeartbeats 1000000 in
theorem wnumber_any (n : Nat) (ni : Int) (hni : ni = (n : Int)) (hn : n < 18446744073709551616) (w0 w : World) (B p : Nat) (bs : Bs) (hl : bs.length ≤ 1000000) (h : WCur w0 w B p bs) :
    Calls Try.prog 34 #[.pointer (some ⟨p, 0, none⟩), .int .u64 ni] w fun e w' => e = .returned (.tuple #[]) ∧ WCur w0 w' B p (bs ++ numE n) := by
  subst hni
  have H := Lib.hid h
  have hE := numE_64 hn
  clear h
  go_enter Try.func34, Try.ntmps34
  go_wp2
  go_loopw [1] (fun s1 wr => ∃ (m : Nat) (pre : Bs), s1 = .int .u64 (m : Int) ∧ m < 18446744073709551616 ∧ Hid (numE n = pre ++ numE m) ∧ Hid (WCur w0 wr B p (bs ++ pre))) (fun s1 _ => (intOf s1).toNat)
  case atStart => exact ⟨n, [], rfl, hn, rfl, by rw [List.append_nil]; exact H⟩
  case round =>
    obtain ⟨m, pre, rfl, hm, hpre, HC⟩ := hrel
    have hpl : pre.length ≤ 10 := by have := congrArg List.length hpre.out; rw [List.length_append] at this; omega
    by_cases hs : 127 < m
    · have e0 : decide ((127 : Int) < (m : Int)) = true := by simp; omega
      go_wp2_with (go_at_call 35; refine (wbyte_any _ (or128_rng m) w0 _ B p _ (by rw [List.length_append]; omega) HC.out).mono ?_; rintro e w2 ⟨rfl, hx⟩; have HX := Lib.hid hx; clear hx)
      go_roundw
      case rel => exact ⟨m / 128, pre ++ [UInt8.ofNat (m % 128 + 128)], by go_num, by omega, Lib.hid (by rw [hpre.out, numE_great (n := m) (by omega), List.append_assoc]; rfl), Lib.hid (by rw [← List.append_assoc, ← u8_or]; exact HX.out)⟩
      case measure => simp [intOf]; omega
    · have e0 : decide ((127 : Int) < (m : Int)) = false := by simp; omega
      go_wp2_with (go_at_call 35; refine (wbyte_any _ (by constructor <;> omega) w0 _ B p _ (by rw [List.length_append]; omega) HC.out).mono ?_; rintro e w2 ⟨rfl, hx⟩; have HX := Lib.hid hx; clear hx)
      exact bodyPost_end (results_none rfl _ _ _) rfl ⟨rfl, by rw [hpre.out, numE_small (n := m) (by omega), ← List.append_assoc, ← u8_lo (by omega)]; exact HX.out⟩

theorem WCur.strs {w0 w : World} {B p b : Nat} {bs : Bs} (h : WCur w0 w B p bs) {cs : Array Value} {t : TypeId} {fr : Nat × Nat} (hb : w0.heap[b]? = some (.cells cs t fr)) (hp : b ≠ p) (ht : t ≠ 5) : w.heap[b]? = some (.cells cs t fr) :=
  let ⟨_, a⟩ := h
  KeepsB.block a.kept hb hp ht

def textsE (ss : List ByteArray) : Bs := ss.flatMap textE
@[simp] theorem textsE_nil : textsE [] = [] := rfl
theorem textsE_snoc (ss : List ByteArray) (s : ByteArray) : textsE (ss ++ [s]) = textsE ss ++ textE s := by simp [textsE]

theorem textsE_len : ∀ (ss : List ByteArray), (∀ s ∈ ss, s.size ≤ 1000) → (textsE ss).length ≤ ss.length * 1010
  | [], _ => by simp
  | s :: t, h => by
    have h1 := textsE_len t fun x hx => h x (List.mem_cons_of_mem _ hx)
    have h2 := h s (List.mem_cons_self ..)
    have h3 := numE_64 (n := s.size) (by omega)
    have e : (textE s).length ≤ 1010 := by unfold textE; rw [List.length_append, data_length]; omega
    simp only [textsE, List.flatMap_cons, List.length_append, List.length_cons] at h1 ⊢
    omega

set_option maxHeartbeats 1000000 in
theorem wtext_any (ss : List ByteArray) (arr : Array Value) (sb : Nat) (w : World) (B p : Nat) (bs : Bs) (ha : arr.toList = ss.map .string) (hsb : w.heap[sb]? = some (.cells arr 9 (0, 0))) (hp : sb ≠ p) (hn : ss.length ≤ 10) (hz : ∀ s ∈ ss, s.size ≤ 1000) (hl : bs.length ≤ 100000) (h : WCur w w B p bs) :
    Calls Try.prog 51 #[.pointer (some ⟨p, 0, none⟩), .slice (some ⟨sb, 0, none⟩) ss.length ss.length] w fun e w' => e = .returned (.tuple #[]) ∧ WCur w w' B p (bs ++ textsE ss) := by
  have H := Lib.hid h
  have HS := Lib.hid hsb
  have HZ := Lib.hid hz
  have HA := Lib.hid ha
  clear h hz ha hsb
  go_enter Try.func51, Try.ntmps51
  go_wp2
  go_loopw [8] (fun s8 wr => ∃ k : Nat, k ≤ ss.length ∧ s8 = .int .i64 (k : Int) ∧ Hid (WCur w wr B p (bs ++ textsE (ss.take k)))) (fun s8 _ => ss.length - (intOf s8).toNat)
  case atStart => exact ⟨0, Nat.zero_le _, rfl, by simpa using H⟩
  case round =>
    obtain ⟨k, hk, rfl, HC⟩ := hrel
    by_cases hlt : k < ss.length
    · obtain ⟨s, hs⟩ : ∃ s, ss[k] = s := ⟨_, rfl⟩
      have hss : s.size ≤ 1000 := HZ.out s (by rw [← hs]; simp)
      have hcell : wr.cell? ⟨sb, k, none⟩ = some (.string s) := by
        have e := HC.out.strs HS.out hp (by decide)
        simp only [World.cell?, e]
        have : arr.toList[k]? = some (.string s) := by rw [HA.out, List.getElem?_map, List.getElem?_eq_getElem hlt, hs]; rfl
        simpa using this
      have htl : (textsE (ss.take k)).length ≤ 20000 := by
        have := textsE_len (ss.take k) fun x hx => HZ.out x (List.mem_of_mem_take hx)
        rw [List.length_take] at this
        have : min k ss.length ≤ 10 := by omega
        omega
      have hns := numE_64 (n := s.size) (by omega)
      obtain ⟨L, hL⟩ : ∃ L, (bs ++ textsE (ss.take k)) ++ numE s.size = L := ⟨_, rfl⟩
      have hLl : L.length ≤ 200000 := by rw [← hL]; simp only [List.length_append]; omega
      have hpre : (bs ++ textsE (ss.take k)).length ≤ 1000000 := by rw [List.length_append]; omega
      have HL := Lib.hid hL
      have HP := Lib.hid hpre
      have HSS := Lib.hid hs
      clear hL htl hns hpre hs
      go_wp2_with (first
        | (go_at_call 34; refine (wnumber_any s.size _ (by go_num) (by omega) w _ B p _ HP.out HC.out).mono ?_; rintro e w2 ⟨rfl, hx⟩; rw [HL.out] at hx; obtain ⟨v3, hx⟩ := hx; obtain ⟨a3, k3, rfl⟩ := hx.row.lv; obtain ⟨q0, r0⟩ := cells_of_block hx.cells 0 (.slice a3 L.length k3) rfl; have HX := Lib.hid hx; clear hx)
        | (at_builtin; refine wpList_app_text rfl _ _ rfl B (.slice a3 L.length k3) L rfl HX.out.row s rfl (by omega) HX.out.big ?_))
      intro v4 w4 hown hgr
      obtain ⟨a4, k4, rfl⟩ := OwnB.lv hown
      have el : (L ++ s.data.toList).length = L.length + s.size := by rw [List.length_append, data_length]
      rw [el] at hown ⊢
      have HW := Lib.hid (HX.out.put (fun i hi => rfl) HX.out.below HX.out.kept HX.out.row hown hgr)
      have e2 : w4.heap[p]? = some (.cells #[.slice a3 L.length k3] 49 (0, 0)) := ((grownBy_keeps' hgr).block p (heap_lt HX.out.cells) fun e => HX.out.ne e.symm).trans HX.out.cells
      obtain ⟨c2, f2⟩ := cells_of_block e2 0 (.slice a3 L.length k3) rfl
      clear hown hgr e2
      go_wp2
      go_roundw
      case rel => exact ⟨k + 1, by omega, by go_num, Lib.hid ⟨_, by rw [List.take_succ_eq_append_getElem hlt, HSS.out, textsE_snoc, ← List.append_assoc, textE, ← List.append_assoc, HL.out]; exact HW.out⟩⟩
      case measure => simp [intOf]; omega
    · obtain rfl : k = ss.length := by omega
      go_wp2
      exact bodyPost_end (results_none rfl _ _ _) rfl ⟨rfl, by have := HC.out; rwa [List.take_length] at this⟩

end Go.Proofs.Ytgplolfkfhhddaa
