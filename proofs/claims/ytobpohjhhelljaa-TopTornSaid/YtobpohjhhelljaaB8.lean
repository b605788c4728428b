/- Layer 5 (blocks): a log's Clean. -/
import Derived.Test.YtobpohjhhelljaaB7
import Derived.Test.YtobpohjhhelljaaRA
namespace Go.Proofs.Ytobpohjhhelljaa
open Go.RowKit
set_option linter.unusedVariables false
set_option linter.unusedSimpArgs false


/-- a record that is handed to a round: up to which block, where its bytes lie, its bytes -/
structure Rc where
  at' : Nat
  b : Nat
  o : Nat
  d : Bs
def encR (x : Rc) : Array Value := #[.int .i64 (x.at' : Int), .slice (some ⟨x.b, x.o, none⟩) x.d.length x.d.length]
def AtR (x : Rc) (W : World) : Prop := 1 ≤ x.d.length ∧ x.d.length ≤ 1024 ∧ ∀ k (hk : k < x.d.length), W.cell? ⟨x.b, x.o + k, none⟩ = some (.int .u8 (x.d[k].toNat : Int))
/-- all records of bs have come -/
def AllR (bs : Bs) (xs : List Rc) : Prop := Parsed bs (xs.map (·.d)) ∧ ∀ x, xs.getLast? = some x → x.at' * 64 = (encs (xs.map (·.d)) 0).length

theorem or_i64 (a b N : Nat) (ha : a < 256) (hb : b < 256) (hN : a * 256 + b = N) : bits .or .i64 ((a : Int) * 256) (b : Int) = (N : Int) := by
  subst hN
  have e : ((a : Int) * 256) = ((a * 256 : Nat) : Int) := by omega
  have h := Nat.two_pow_add_eq_or_of_lt (i := 8) (b := b) (by simpa using hb) a
  rw [show (2 ^ 8 : Nat) = 256 from rfl, Nat.mul_comm] at h
  rw [e, h]
  have hx : (a * 256 ||| b) < 2 ^ 16 := Nat.or_lt_two_pow (by omega) (by omega)
  show IntKind.i64.wrap ((BitVec.ofInt 64 ((a * 256 : Nat) : Int) ||| BitVec.ofInt 64 (b : Int)).toNat : Int) = _
  rw [BitVec.toNat_or, BitVec.ofInt_natCast, BitVec.ofInt_natCast, BitVec.toNat_ofNat, BitVec.toNat_ofNat, Nat.mod_eq_of_lt (by omega), Nat.mod_eq_of_lt (by omega)]
  exact IntWalk.i64_in _ (by omega)

theorem needN_any (n : Nat) (w : World) : Calls Try.prog 38 #[.int .i64 n] w fun e w' => e = .returned (.int .i64 (needN n : Nat)) ∧ w' = w :=
  (need_any n w).mono fun e w' h => ⟨by rw [h.1, need_nat], h.2⟩

theorem equal_n (l m : Bs) (ln mn : Nat) (hl : ln = l.length) (hm : mn = m.length) (a a' : Option Addr) (c c' : Nat) (w : World) (hl1 : ln ≤ 1000000) (hm1 : mn ≤ 1000000) (h : RdAt w a l) (h' : RdAt w a' m) :
    Calls Try.prog 64 #[.slice a ln c, .slice a' mn c'] w fun e w' => e = .returned (.bool (decide (l = m))) ∧ Below w.heap.size w w' := by
  subst hl; subst hm; exact equal_any l m a a' c c' w hl1 hm1 h h'
theorem OwnB.rd {w : World} {B : Nat} {a : Option Addr} {n c : Nat} {l : Bs} (h : OwnB w B (.slice a n c) l) : RdAt w a l := by
  obtain ⟨a', c', hv, hr⟩ := h.isB.rd
  simp only [Value.slice.injEq] at hv
  rw [hv.1]; exact hr
def IdxNeg (w : World) (e : Ending) (w' : World) : Prop := ∃ r : Int, r < 0 ∧ -1 ≤ r ∧ e = .returned (.int .i64 r) ∧ w = w'
def IdxPos (w : World) (e : Ending) (w' : World) : Prop := ∃ r : Int, 0 ≤ r ∧ r ≤ 1000000 ∧ e = .returned (.int .i64 r) ∧ w = w'
theorem idx_yes (l : Bs) (ln : Nat) (hl : ln = l.length) (a : Option Addr) (c : Nat) (w : World) (hl1 : ln ≤ 1000000) (h : RdAt w a l) (hz : allZ l = true) :
    Calls Try.prog 65 #[.slice a ln c, .func (.func 66) #[] #[]] w (IdxNeg w) := by
  subst hl
  refine (idx_any l a c w hl1 h).mono ?_
  rintro e w' ⟨r, h1, h2, h3, h4, h5⟩
  exact ⟨r, h3.2 hz, h1, h4, h5.symm⟩
theorem idx_no (l : Bs) (ln : Nat) (hl : ln = l.length) (a : Option Addr) (c : Nat) (w : World) (hl1 : ln ≤ 1000000) (h : RdAt w a l) (hz : allZ l = false) :
    Calls Try.prog 65 #[.slice a ln c, .func (.func 66) #[] #[]] w (IdxPos w) := by
  subst hl
  refine (idx_any l a c w hl1 h).mono ?_
  rintro e w' ⟨r, h1, h2, h3, h4, h5⟩
  have : ¬ r < 0 := fun h => by rw [h3.1 h] at hz; cases hz
  exact ⟨r, by omega, by omega, h4, h5.symm⟩
theorem lay_n (l : Bs) (n : Nat) (hn : n = l.length) (k : Nat) (ki : Int) (hki : ki = (k : Int)) (b o c : Nat) (w : World) (h1 : 1 ≤ n) (h2 : n ≤ 1024) (hc : n ≤ c) (hcm : c ≤ maxLen) (hk : k ≤ 1000000) (h : ∀ k (hk : k < l.length), w.cell? ⟨b, o + k, none⟩ = some (.int .u8 (l[k].toNat : Int))) :
    Calls Try.prog 41 #[.slice (some ⟨b, o, none⟩) n c, .int .i64 ki] w (LayPost w (laid l k)) := by
  subst hn; subst hki; exact lay_any l k b o c w h1 h2 hc hcm hk h

def ds (xs : List Rc) : List Bs := xs.map (·.d)
/-- between two rounds: xs have come, up to block at -/
structure Mid (bs : Bs) (n : Nat) (xs : List Rc) (at' : Nat) : Prop where
  good : Good (ds xs)
  eq : bs = encs (ds xs) 0 ++ bs.drop (at' * 64)
  len : (encs (ds xs) 0).length = at' * 64
  le : at' ≤ n
  last : ∀ x, xs.getLast? = some x → x.at' = at'
theorem Mid.done {bs : Bs} {n : Nat} {xs : List Rc} {at' : Nat} (h : Mid bs n xs at') (hs : scan (bs.drop (at' * 64)) (xs.length + 1) = none) : AllR bs xs :=
  ⟨⟨h.good, _, h.eq, by simpa using hs⟩, fun x hx => by rw [h.last x hx]; exact h.len.symm⟩
theorem Mid.step {bs : Bs} {n : Nat} {xs : List Rc} {at' : Nat} (h : Mid bs n xs at') (hl : bs.length = n * 64) {d : Bs} (hs : scan (bs.drop (at' * 64)) (xs.length + 1) = some d) (x : Rc) (hd : x.d = d) (ha : x.at' = at' + needN d.length) : Mid bs n (xs ++ [x]) (at' + needN d.length) := by
  obtain ⟨h1, h2, rest, hr⟩ := scan_some hs
  have hlen := recd_length (xs.length + 1) h1 h2
  have e : ds (xs ++ [x]) = ds xs ++ [d] := by simp [ds, hd]
  have el : encs (ds (xs ++ [x])) 0 = encs (ds xs) 0 ++ recd d (xs.length + 1) := by rw [e, encs_append]; simp [encs, ds]
  have h0 := h.len
  refine ⟨?_, ?_, ?_, ?_, fun y hy => ?_⟩
  · rw [e]; intro r hr; rcases List.mem_append.1 hr with hr | hr
    · exact h.good r hr
    · simp at hr; subst hr; exact ⟨h1, h2⟩
  · have hb := h.eq
    have hdr : bs.drop ((at' + needN d.length) * 64) = rest := by
      rw [Nat.add_mul, ← List.drop_drop, hr, ← hlen]; simp
    rw [hdr, el, List.append_assoc, ← hr]; exact hb
  · rw [el, List.length_append, h0, hlen]; omega
  · have : (bs.drop (at' * 64)).length = (recd d (xs.length + 1) ++ rest).length := by rw [hr]
    rw [List.length_drop, hl, List.length_append, hlen] at this
    have := needN_of h1 h2
    have := h.le
    omega
  · simp at hy; subst hy; exact ha

open Go.Shelf
attribute [local go_sem] Oper.semAt_some

set_option maxRecDepth 100000 in
set_option maxHeartbeats 4000000 in
theorem rec1_any (B p : Nat) (v : Value) (n : Nat) (bs : Bs) (last most bx : Nat) (l : Nat) (W : World) (h : LogAt W B p v n bs last most) (hbx : W.heap[bx]? = some (.cells #[.pointer (some ⟨p, 0, none⟩)] 38 (0, 0))) (G : Nat → Prop) (hGp : G p) (hGb : G bx) (hGv : ∀ k, v.ownBlock = some k → G k)
    (J : List Rc → World → Prop) (hJ : ∀ pre W W', J pre W → Below W.heap.size W W' → J pre W')
    (hY : ∀ pre x W1, J pre W1 → AtR x W1 → pre.length < 5000 → YieldAt Fence.wide 1 Try.prog l (encR x) W1 fun e W' => e = .returned (.bool true) ∧ J (pre ++ [x]) W' ∧ Keeps (fun i => ¬ G i) W1 W' ∧ W1.heap.size ≤ W'.heap.size)
    (h0 : J [] W) :
    CallsIn Fence.wide 2 Try.prog 63 (#[.func (.yield l) #[] #[]] ++ #[.pointer (some ⟨bx, 0, none⟩)]) W fun e W' => (∃ v, e = .returned v) ∧ ∃ xs, AllR bs xs ∧ J xs W' := by
  have H := Lib.hid h
  have hn := h.hn
  have hm := h.hm
  have hbl := h.row.1
  have hnc : ∀ a c, v = .slice a n c → n ≤ c := fun a c hv => by subst hv; exact h.cap
  obtain ⟨a, c, rfl⟩ := h.lv
  have hnc := hnc a c rfl
  have HBX := Lib.hid hbx
  clear h hbx
  refine callsIn_wide.2 ?_
  have hc0 := (cells_of_block HBX.out 0 _ rfl).1
  go_enter Try.func63, Try.ntmps63
  go_wp2
  go_loopw [3, 4] (fun s3 s4 wr => ∃ (xs : List Rc) (at' : Nat), s3 = .int .i64 (xs.length : Nat) ∧ s4 = .int .i64 (at' : Nat) ∧ at' ≤ n ∧ Hid (Mid bs n xs at') ∧ Hid (J xs wr) ∧ Hid (Keeps (fun i => ¬ G i) W wr)) (fun _ s4 _ => n - (intOf s4).toNat)
  case atStart => exact ⟨[], 0, rfl, rfl, Nat.zero_le _, Lib.hid ⟨fun r h => by simp [ds] at h, by simp [ds, encs], by simp [ds, encs], Nat.zero_le _, fun x h => by simp at h⟩, Lib.hid h0, Lib.hid (Keeps.refl _ _)⟩
  case round =>
    obtain ⟨xs, at', rfl, rfl, hat, HM, HJ, HK⟩ := hrel
    clear hc0
    have hL : LogAt wr B p (.slice a n c) n bs last most := H.out.kept fun i hi => HK.out.block i (by rcases hi with rfl | hi; exact H.out.lt.1; exact (H.out.lt.2 i hi).2) (fun h => h (by rcases hi with rfl | hi; exact hGp; exact hGv i hi))
    have k0 : wr.cell? ⟨bx, 0, none⟩ = some (.pointer (some ⟨p, 0, none⟩)) := (cells_of_block ((HK.out.block bx (heap_lt HBX.out) (fun h => h hGb)).trans HBX.out) 0 _ rfl).1
    have k1 : wr.cell? ⟨p, 0, none⟩ = some (.slice a n c) := (cells_of_block hL.cells 0 _ rfl).1
    have HL := Lib.hid hL
    clear hL
    by_cases hlt : at' < n
    · obtain ⟨g, rfl⟩ : ∃ g, a = some ⟨g, 0, none⟩ := by
        rcases H.out.val with ⟨hv, hn0⟩ | ⟨g, c', hv, _, _⟩
        · omega
        · simp only [Value.slice.injEq] at hv
          exact ⟨g, hv.1⟩
      have hcell : ∀ k (hk : k < bs.length), wr.cell? ⟨g, k, none⟩ = some (.int .u8 (bs[k].toNat : Int)) := fun k hk => by
        rw [World.ownsRow.cellAt HL.out.row.2 k (by omega), cellsU_get bs k hk]
      have HC := Lib.hid hcell
      have hb0 := hcell (at' * 64) (by omega)
      have hb1 := hcell (at' * 64 + 1) (by omega)
      clear hcell
      have u0 := (bs[at' * 64]'(by omega)).toNat_lt
      have u1 := (bs[at' * 64 + 1]'(by omega)).toNat_lt
      obtain ⟨N, hN⟩ : ∃ N, N = lenAt (bs.drop (at' * 64)) := ⟨_, rfl⟩
      have hNe : (bs[at' * 64]'(by omega)).toNat * 256 + (bs[at' * 64 + 1]'(by omega)).toNat = N := by
        rw [hN, lenAt]
        simp only [List.getD_eq_getElem?_getD, List.getElem?_drop, Nat.add_zero]
        rw [List.getElem?_eq_getElem (by omega), List.getElem?_eq_getElem (by omega)]; rfl
      have hor := or_i64 _ _ N u0 u1 hNe
      have HN := Lib.hid hN
      generalize hx0 : (bs[at' * 64]'(by omega)).toNat = X0 at *
      generalize hx1 : (bs[at' * 64 + 1]'(by omega)).toNat = X1 at *
      have hNlt : N < 65536 := by omega
      have hw : IntKind.i64.wrap ((X0 : Int) * 256) = (X0 : Int) * 256 := IntWalk.i64_in _ (by omega)
      have hw0 : IntKind.i64.wrap (X0 : Int) = (X0 : Int) := IntWalk.i64_in _ (by omega)
      have hw1 : IntKind.i64.wrap (X1 : Int) = (X1 : Int) := IntWalk.i64_in _ (by omega)
      clear hx0 hx1 hNe hN
      obtain ⟨K, hK⟩ : ∃ K, K = needN N := ⟨_, rfl⟩
      have hK17 : K ≤ 17 := by rw [hK]; unfold needN; split <;> omega
      have HKn := Lib.hid hK
      have hneed := fun w => needN_any N w
      rw [← hK] at hneed
      clear hK
      go_upto_region 4 with fail
      go_still (by kernel_rfl)
      clear hb0 hb1 hor hw hw0 hw1 u0 u1
      change Exit.then _ _ _ _ wr.drew
      have HC1 := Lib.hid (show ∀ k (hk : k < bs.length), wr.drew.cell? ⟨g, k, none⟩ = some (.int .u8 (bs[k].toNat : Int)) from HC.out)
      have HK1 := Lib.hid HK.out.drew
      have HJ1 := Lib.hid (hJ xs wr wr.drew HJ.out (Below.refl _ wr).drew)
      have k0 : wr.drew.cell? ⟨bx, 0, none⟩ = some (.pointer (some ⟨p, 0, none⟩)) := k0
      have k1 : wr.drew.cell? ⟨p, 0, none⟩ = some (.slice (some ⟨g, 0, none⟩) n c) := k1
      clear HC HK HJ HL
      generalize wr.drew = w1 at *
      by_cases h0 : K = 0
      · have HD := Lib.hid (HM.out.done (scan_no_len (.inl (by rw [← HN.out, ← HKn.out, h0]))))
        subst h0
        go_wp2_with (go_at_call 38; refine (hneed _).mono ?_; rintro e w' ⟨rfl, rfl⟩)
        exact bodyPost_ret (results_none rfl _ _ _) rfl ⟨⟨_, rfl⟩, xs, HD.out, HJ1.out⟩
      by_cases hbig : n - at' < K
      · have HD := Lib.hid (HM.out.done (scan_no_len (.inr (by rw [← HN.out, ← HKn.out, List.length_drop]; omega))))
        have e0 : ((K : Int) == 0) = false := by simp; omega
        have e1 : (n : Int) - (at' : Int) < (K : Int) := by omega
        go_wp2_with (go_at_call 38; refine (hneed _).mono ?_; rintro e w' ⟨rfl, rfl⟩)
        exact bodyPost_ret (results_none rfl _ _ _) rfl ⟨⟨_, rfl⟩, xs, HD.out, HJ1.out⟩
      have e0 : ((K : Int) == 0) = false := by simp; omega
      have e1 : decide ((n : Int) - (at' : Int) < (K : Int)) = false := by simp; omega
      have hsub : at' + K - at' = K := by omega
      have e2 : ¬ (n : Int) - (at' : Int) < (K : Int) := by omega
      have hrl : (bs.drop (at' * 64)).length = (n - at') * 64 := by rw [List.length_drop]; omega
      have hfit : K * 64 ≤ (bs.drop (at' * 64)).length := by omega
      have hKne : needN (lenAt (bs.drop (at' * 64))) ≠ 0 := by rw [← HN.out, ← HKn.out]; exact h0
      obtain ⟨hd1, hd2⟩ := recd_data_length hKne (by rw [← HN.out, ← HKn.out]; exact hfit)
      obtain ⟨m1, m2, _⟩ := needN_ok hKne
      rw [← HN.out] at hd1 m1 m2
      rw [← HN.out, ← HKn.out] at hd2
      have HKne := Lib.hid hKne
      have HFit := Lib.hid hfit
      clear hKne hfit
      go_wp2_with (go_at_call 38; refine (hneed _).mono ?_; rintro e w' ⟨rfl, hww⟩; obtain rfl := hww.symm)
      clear e1 e2 k0 k1
      rw [hsub]
      clear hsub
      go_loopw [7, 69] (fun out s69 ws => ∃ j : Nat, j ≤ K ∧ s69 = .int .i64 (j : Nat) ∧ Hid (OwnB ws w1.heap.size out ((bs.drop (at' * 64)).take (j * 64))) ∧ Hid (Below w1.heap.size w1 ws)) (fun _ s69 _ => K - (intOf s69).toNat)
      case atStart => exact ⟨0, Nat.zero_le _, rfl, Lib.hid (by rw [Nat.zero_mul, List.take_zero]; exact World.ownsRow_nil _ _ _ _), Lib.hid (Below.refl _ _)⟩
      case round =>
        obtain ⟨j, hj, rfl, HO, HB⟩ := hrel
        by_cases hjk : j < K
        · obtain ⟨ht, hlen⟩ := take_blk (bs := bs.drop (at' * 64)) (n := n - at') hrl j (by omega)
          have HT := Lib.hid ht
          have hcc : ∀ i (hi : i < (((bs.drop (at' * 64)).drop (j * 64)).take 64).length), wr.cell? ⟨g, at' * 64 + j * 64 + i, none⟩ = some (.int .u8 ((((bs.drop (at' * 64)).drop (j * 64)).take 64)[i].toNat : Int)) := fun i hi => by
            have hi' : i < 64 := by omega
            have h1 := HC1.out (at' * 64 + j * 64 + i) (by omega)
            rw [List.getElem_take, List.getElem_drop, List.getElem_drop]
            rw [(HB.out.cell (p := ⟨g, at' * 64 + j * 64 + i, none⟩) (World.block_lt_of_cell? _ _ h1)).trans h1]
            simp only [Nat.add_assoc]
          have HC := Lib.hid hcc
          have HLen := Lib.hid hlen
          generalize hX : ((bs.drop (at' * 64)).drop (j * 64)).take 64 = X at *
          clear hcc ht hlen hX
          go_wp2_with (first | (refine wpList_loadBlk rfl _ rfl g (at' * 64 + j * 64) rfl X HLen.out HC.out ?_) | (refine wpList_storeBlk rfl _ _ rfl wr.heap.size rfl X HLen.out rfl _ heap_alloc_eq rfl ?_; rw [Wset_alloc]) | (at_builtin; refine wpList_app_bytes rfl _ _ rfl w1.heap.size u7 ((bs.drop (at' * 64)).take (j * 64)) rfl ?_ _ X rfl ?_ ?_ ?_ ?_))
          · exact HO.out.alloc _
          · have := isB_of_heap (w := wr.alloc (.cells (cellsU X).toArray 91)) (b := wr.heap.size) X heap_alloc_eq (by rw [HLen.out]; unfold maxLen; omega)
            rw [HLen.out] at this
            exact this
          · have := HLen.out; simp only [List.length_take, List.length_drop]; omega
          · have := HB.out.size; simp; omega
          intro v' w2 hown hgr
          have HO2 := Lib.hid (show OwnB w2 w1.heap.size v' ((bs.drop (at' * 64)).take ((j + 1) * 64)) by rw [HT.out]; exact hown)
          have HB2 := Lib.hid ((HB.out.alloc HB.out.size _).grown hgr (by have := HB.out.size; simp; omega) (fun j e => (HO.out.lt j e).1))
          clear hown hgr
          go_wp2
          go_roundw
          case rel => exact ⟨j + 1, by omega, by go_num, HO2, HB2⟩
          case measure => simp [intOf]; omega
        · obtain rfl : j = K := by omega
          obtain ⟨R, hR⟩ : ∃ R, R = bs.drop (at' * 64) := ⟨_, rfl⟩
          rw [← hR] at hd1 hrl HO HN HKne HFit
          have HR := Lib.hid hR
          clear hR
          have hAl : (R.take (j * 64)).length = j * 64 := by rw [List.length_take]; omega
          obtain ⟨g2, cap, rfl, hcap, hcm, hcell⟩ : ∃ g2 cap, u7 = .slice (some ⟨g2, 0, none⟩) (j * 64) cap ∧ j * 64 ≤ cap ∧ cap ≤ maxLen ∧ ∀ k (hk : k < (R.take (j * 64)).length), wr.cell? ⟨g2, k, none⟩ = some (.int .u8 ((R.take (j * 64))[k].toNat : Int)) := by
            rcases HO.out.isB with ⟨_, h⟩ | ⟨b, o, c, hv, h1, h2, h3⟩
            · rw [h] at hAl; simp at hAl; omega
            · rw [hAl] at hv h1
              obtain ⟨_, ⟨hv2, _⟩ | ⟨g, cap, cur, hv2, _⟩⟩ := HO.out
              · rw [hv] at hv2; cases hv2
              · rw [hv] at hv2
                simp only [Value.slice.injEq, Option.some.injEq, Addr.mk.injEq, and_true] at hv2
                obtain ⟨⟨rfl, rfl⟩, _, rfl⟩ := hv2
                exact ⟨b, c, hv, h1, h2, fun k hk => by simpa using h3 k hk⟩
          obtain ⟨D, hD⟩ : ∃ D, D = (R.drop 8).take N := ⟨_, rfl⟩
          have hDl : N = D.length := by rw [hD]; exact hd1.symm
          have hDc : ∀ k (hk : k < D.length), wr.cell? ⟨g2, 8 + k, none⟩ = some (.int .u8 (D[k].toNat : Int)) := fun k hk => by
            rw [hcell (8 + k) (by omega)]
            simp only [hD, List.getElem_take, List.getElem_drop]
          have HDe := Lib.hid hD
          have HDl := Lib.hid hDl
          have HDc := Lib.hid hDc
          have HA := Lib.hid hcell
          have hxl : xs.length ≤ 4096 := by
            have h1 := count_le HM.out.good 0
            rw [HM.out.len] at h1
            simp only [ds, List.length_map] at h1
            omega
          have hJ2 := hJ xs w1 wr HJ1.out HB.out
          have HJ2 := Lib.hid hJ2
          have HK2 := Lib.hid (HK1.out.trans ⟨HB.out.os, HB.out.tape, HB.out.output, HB.out.size, fun k hk _ => HB.out.block k hk⟩)
          clear hD hDl hDc hcell hJ2 HO HJ1 HK1 HC1 HB hd1 hAl
          have hAl : (R.take (j * 64)).length = j * 64 := by rw [List.length_take]; have := HFit.out; omega
          have HAl := Lib.hid hAl
          have HTl := Lib.hid (show 8 + N = ((R.take (j * 64)).take (8 + N)).length by rw [List.length_take]; omega)
          have HZl := Lib.hid (show j * 64 - (8 + N) = ((R.take (j * 64)).drop (8 + N)).length by rw [List.length_drop, HAl.out])
          have HAT := Lib.hid (show ∀ w3, Below wr.heap.size wr w3 → ∀ k (hk : k < ((R.take (j * 64)).take (8 + N)).length), w3.cell? ⟨g2, 0 + k, none⟩ = some (.int .u8 (((R.take (j * 64)).take (8 + N))[k].toNat : Int)) from fun w3 hb k hk => by
            rw [List.length_take] at hk
            have h1 := HA.out k (by omega)
            rw [Nat.zero_add, List.getElem_take]
            exact (hb.cell (p := ⟨g2, k, none⟩) (World.block_lt_of_cell? _ _ h1)).trans h1)
          have HAZ := Lib.hid (show ∀ w3, Below wr.heap.size wr w3 → ∀ k (hk : k < ((R.take (j * 64)).drop (8 + N)).length), w3.cell? ⟨g2, 8 + N + k, none⟩ = some (.int .u8 (((R.take (j * 64)).drop (8 + N))[k].toNat : Int)) from fun w3 hb k hk => by
            rw [List.length_drop] at hk
            have h1 := HA.out (8 + N + k) (by omega)
            rw [List.getElem_drop]
            exact (hb.cell (p := ⟨g2, 8 + N + k, none⟩) (World.block_lt_of_cell? _ _ h1)).trans h1)
          have HNK := Lib.hid (show j = needN (lenAt R) by rw [← HN.out]; exact HKn.out)
          have hDb : D.length ≤ 1024 := by have := HDl.out; omega
          clear hAl
          by_cases hE : laid D (xs.length + 1) = (R.take (j * 64)).take (8 + N)
          rotate_left
          · have HDec := Lib.hid (decide_eq_false hE)
            have HD := Lib.hid (HM.out.done (by
              rw [← HR.out]
              refine scan_no_head HKne.out (by rw [← HNK.out]; exact HFit.out) ?_
              rw [← HNK.out, ← HN.out, ← HDe.out]; exact hE))
            clear hE
            go_wp2_with (first | (go_at_call 41; refine (lay_n D N HDl.out (xs.length + 1) _ (by omega) g2 8 N _ m1 m2 (Nat.le_refl _) (by unfold maxLen; omega) (by omega) HDc.out).mono ?_; rintro e w3 ⟨v3, rfl, ho3, hb3⟩; obtain ⟨a3, c3, rfl⟩ := ho3.lv; have HO3 := Lib.hid ho3; have HB3 := Lib.hid hb3; clear ho3 hb3) | (go_at_call 64; refine (equal_n (laid D (xs.length + 1)) ((R.take (j * 64)).take (8 + N)) _ _ (by simp) HTl.out _ _ _ _ _ (by omega) (by omega) HO3.out.rd (.inr ⟨g2, 0, rfl, fun k hk => HAT.out w3 HB3.out k hk⟩)).mono ?_; rintro e w4 ⟨rfl, hb4⟩; rw [HDec.out]; have HB4 := Lib.hid (HB3.out.trans (hb4.mono HB3.out.size)); clear hb4))
            exact bodyPost_ret (results_none rfl _ _ _) rfl ⟨⟨_, rfl⟩, xs, HD.out, hJ xs wr _ HJ2.out HB4.out⟩
          have HDec := Lib.hid (decide_eq_true hE)
          have HE := Lib.hid hE
          clear hE
          by_cases hZ : allZ ((R.take (j * 64)).drop (8 + N)) = true
          rotate_left
          · have hZ' : allZ ((R.take (j * 64)).drop (8 + N)) = false := by simpa using hZ
            have HZ := Lib.hid hZ'
            have HD := Lib.hid (HM.out.done (by
              rw [← HR.out]
              refine scan_no_tail HKne.out (by rw [← HNK.out]; exact HFit.out) ?_
              rw [← HNK.out, ← HN.out]; exact hZ'))
            have hcap2 : ¬ cap = 8 + N := fun e => by
              have : ((R.take (j * 64)).drop (8 + N)) = [] := List.eq_nil_of_length_eq_zero (by rw [List.length_drop, HAl.out]; omega)
              rw [this] at hZ'; cases hZ'
            clear hZ hZ'
            go_wp2_with (first | (go_at_call 41; refine (lay_n D N HDl.out (xs.length + 1) _ (by omega) g2 8 N _ m1 m2 (Nat.le_refl _) (by unfold maxLen; omega) (by omega) HDc.out).mono ?_; rintro e w3 ⟨v3, rfl, ho3, hb3⟩; obtain ⟨a3, c3, rfl⟩ := ho3.lv; have HO3 := Lib.hid ho3; have HB3 := Lib.hid hb3; clear ho3 hb3) | (go_at_call 64; refine (equal_n (laid D (xs.length + 1)) ((R.take (j * 64)).take (8 + N)) _ _ (by simp) HTl.out _ _ _ _ _ (by omega) (by omega) HO3.out.rd (.inr ⟨g2, 0, rfl, fun k hk => HAT.out w3 HB3.out k hk⟩)).mono ?_; rintro e w4 ⟨rfl, hb4⟩; rw [HDec.out]; have HB4 := Lib.hid (HB3.out.trans (hb4.mono HB3.out.size)); clear hb4) | (go_at_call 65; refine (idx_no ((R.take (j * 64)).drop (8 + N)) _ HZl.out _ _ _ (by omega) (.inr ⟨g2, 8 + N, rfl, fun k hk => HAZ.out w4 HB4.out k hk⟩) HZ.out).mono ?_; rintro e w5 ⟨r, hr1, hr2, rfl, rfl⟩))
            exact bodyPost_ret (results_none rfl _ _ _) rfl ⟨⟨_, rfl⟩, xs, HD.out, hJ xs wr _ HJ2.out HB4.out⟩
          have HZ := Lib.hid hZ
          have HS := Lib.hid (show scan (bs.drop (at' * 64)) (xs.length + 1) = some D by
            rw [← HR.out, HDe.out, HN.out]
            refine scan_yes HKne.out (by rw [← HNK.out]; exact HFit.out) ?_ ?_
            · rw [← HNK.out, ← HN.out, ← HDe.out]; exact HE.out
            · rw [← HNK.out, ← HN.out]; exact hZ)
          clear hZ
          by_cases hcap2 : cap = 8 + N
          · go_upto_region 18 with (first | (go_at_call 41; refine (lay_n D N HDl.out (xs.length + 1) _ (by omega) g2 8 N _ m1 m2 (Nat.le_refl _) (by unfold maxLen; omega) (by omega) HDc.out).mono ?_; rintro e w3 ⟨v3, rfl, ho3, hb3⟩; obtain ⟨a3, c3, rfl⟩ := ho3.lv; have HO3 := Lib.hid ho3; have HB3 := Lib.hid hb3; clear ho3 hb3) | (go_at_call 64; refine (equal_n (laid D (xs.length + 1)) ((R.take (j * 64)).take (8 + N)) _ _ (by simp) HTl.out _ _ _ _ _ (by omega) (by omega) HO3.out.rd (.inr ⟨g2, 0, rfl, fun k hk => HAT.out w3 HB3.out k hk⟩)).mono ?_; rintro e w4 ⟨rfl, hb4⟩; rw [HDec.out]; have HB4 := Lib.hid (HB3.out.trans (hb4.mono HB3.out.size)); clear hb4) | (go_at_call 65; refine (idx_yes ((R.take (j * 64)).drop (8 + N)) _ HZl.out _ _ _ (by omega) (.inl (List.eq_nil_of_length_eq_zero (by rw [List.length_drop, HAl.out]; omega))) HZ.out).mono ?_; rintro e w5 ⟨r, hr1, hr2, rfl, rfl⟩))
            have hJ4 := hJ xs wr w4 HJ2.out HB4.out
            obtain ⟨fn, tm, asg, bdy, hy, hR⟩ := hY xs ⟨at' + j, g2, 8, D⟩ w4 hJ4 ⟨show 1 ≤ D.length by have := HDl.out; omega, hDb, fun k hk => (HB4.out.cell (p := ⟨g2, 8 + k, none⟩) (World.block_lt_of_cell? _ _ (HDc.out k hk))).trans (HDc.out k hk)⟩ (by omega)
            have HR' := Lib.hid hR
            have hy' : (Instr.yield l #[.int .i64 ((at' : Int) + (j : Int)), .slice (some ⟨g2, 8, none⟩) N N]).run Try.prog w4 = .ok (.round l fn tm asg bdy) w4 := by
              have := hy
              simp only [encR, Int.natCast_add, ← HDl.out] at this
              exact this
            have HSt := Lib.hid (HM.out.step hbl HS.out ⟨at' + j, g2, 8, D⟩ rfl (show at' + j = at' + needN D.length by rw [← HDl.out, ← HKn.out]))
            have HSt2 := Lib.hid (show needN D.length = j by rw [← HDl.out]; exact HKn.out.symm)
            have HK4 := Lib.hid (HK2.out.trans ⟨HB4.out.os, HB4.out.tape, HB4.out.output, HB4.out.size, fun k hk _ => HB4.out.block k hk⟩)
            clear hy hR hJ4
            refine (wpIn_wide (n := 2)).1 ?_
            gi_wp2
            refine HR'.out.mono ?_
            rintro e W5 ⟨rfl, hj5, hk5, hs5⟩
            have HJ5 := Lib.hid hj5
            have HK5 := Lib.hid (HK4.out.trans hk5)
            clear hj5 hk5 hs5 hy'
            gi_wp2
            go_wp2
            go_roundw
            case rel => exact ⟨xs ++ [⟨at' + j, g2, 8, D⟩], at' + j, by simp, by go_num, by omega, Lib.hid (by have := HSt.out; rw [HSt2.out] at this; exact this), HJ5, HK5⟩
            case measure => simp [intOf]; omega
          · go_upto_region 18 with (first | (go_at_call 41; refine (lay_n D N HDl.out (xs.length + 1) _ (by omega) g2 8 N _ m1 m2 (Nat.le_refl _) (by unfold maxLen; omega) (by omega) HDc.out).mono ?_; rintro e w3 ⟨v3, rfl, ho3, hb3⟩; obtain ⟨a3, c3, rfl⟩ := ho3.lv; have HO3 := Lib.hid ho3; have HB3 := Lib.hid hb3; clear ho3 hb3) | (go_at_call 64; refine (equal_n (laid D (xs.length + 1)) ((R.take (j * 64)).take (8 + N)) _ _ (by simp) HTl.out _ _ _ _ _ (by omega) (by omega) HO3.out.rd (.inr ⟨g2, 0, rfl, fun k hk => HAT.out w3 HB3.out k hk⟩)).mono ?_; rintro e w4 ⟨rfl, hb4⟩; rw [HDec.out]; have HB4 := Lib.hid (HB3.out.trans (hb4.mono HB3.out.size)); clear hb4) | (go_at_call 65; refine (idx_yes ((R.take (j * 64)).drop (8 + N)) _ HZl.out _ _ _ (by omega) (.inr ⟨g2, 8 + N, rfl, fun k hk => HAZ.out w4 HB4.out k hk⟩) HZ.out).mono ?_; rintro e w5 ⟨r, hr1, hr2, rfl, rfl⟩))
            have hJ4 := hJ xs wr w4 HJ2.out HB4.out
            obtain ⟨fn, tm, asg, bdy, hy, hR⟩ := hY xs ⟨at' + j, g2, 8, D⟩ w4 hJ4 ⟨show 1 ≤ D.length by have := HDl.out; omega, hDb, fun k hk => (HB4.out.cell (p := ⟨g2, 8 + k, none⟩) (World.block_lt_of_cell? _ _ (HDc.out k hk))).trans (HDc.out k hk)⟩ (by omega)
            have HR' := Lib.hid hR
            have hy' : (Instr.yield l #[.int .i64 ((at' : Int) + (j : Int)), .slice (some ⟨g2, 8, none⟩) N N]).run Try.prog w4 = .ok (.round l fn tm asg bdy) w4 := by
              have := hy
              simp only [encR, Int.natCast_add, ← HDl.out] at this
              exact this
            have HSt := Lib.hid (HM.out.step hbl HS.out ⟨at' + j, g2, 8, D⟩ rfl (show at' + j = at' + needN D.length by rw [← HDl.out, ← HKn.out]))
            have HSt2 := Lib.hid (show needN D.length = j by rw [← HDl.out]; exact HKn.out.symm)
            have HK4 := Lib.hid (HK2.out.trans ⟨HB4.out.os, HB4.out.tape, HB4.out.output, HB4.out.size, fun k hk _ => HB4.out.block k hk⟩)
            clear hy hR hJ4
            refine (wpIn_wide (n := 2)).1 ?_
            gi_wp2
            refine HR'.out.mono ?_
            rintro e W5 ⟨rfl, hj5, hk5, hs5⟩
            have HJ5 := Lib.hid hj5
            have HK5 := Lib.hid (HK4.out.trans hk5)
            clear hj5 hk5 hs5 hy'
            gi_wp2
            go_wp2
            go_roundw
            case rel => exact ⟨xs ++ [⟨at' + j, g2, 8, D⟩], at' + j, by simp, by go_num, by omega, Lib.hid (by have := HSt.out; rw [HSt2.out] at this; exact this), HJ5, HK5⟩
            case measure => simp [intOf]; omega
    · obtain rfl : at' = n := by omega
      have HD := Lib.hid (HM.out.done (by rw [List.drop_eq_nil_of_le (by omega)]; exact scan_nil _))
      go_wp2
      go_end0
      exact ⟨⟨_, rfl⟩, xs, HD.out, HJ.out⟩



open Go.Shelf
attribute [local go_sem] Oper.semAt_some

theorem records_any (x : Value) (w : World) (hx : ∃ o, x = .pointer o) : Calls Try.prog 40 #[x] w fun e w' => e = .returned (.func (.func 63) #[] #[.pointer (some ⟨w.heap.size, 0, none⟩)]) ∧ w' = w.alloc (.cells #[x] 38) := by
  obtain ⟨o, rfl⟩ := hx
  go_enter Try.func40, Try.ntmps40
  go_wp2
  go_ret
  exact ⟨rfl, rfl⟩

/-- what is asked of a caller's own state between the rounds: it stands in cells -/
structure CellsSame (W W' : World) : Prop where
  os : W'.os = W.os
  tape : W'.tape = W.tape
  output : W'.output = W.output
  size : W.heap.size ≤ W'.heap.size
  same : ∀ (k : Nat) (o : Go.Obj), W.heap[k]? = some o → Go.Obj.isCells o = true → W'.heap[k]? = some o
theorem CellsSame.of_below {W W' : World} (h : Below W.heap.size W W') : CellsSame W W' := ⟨h.os, h.tape, h.output, h.size, fun k o hk _ => (h.block k (heap_lt hk)).trans hk⟩
theorem CellsSame.putObj {W : World} {l : Nat} {o o' : Go.Obj} (h : W.heap[l]? = some o) (ho : o.isCells = false) : CellsSame W (W.putObj l o') :=
  ⟨rfl, rfl, rfl, by simp, fun k u hk hu => (World.putObj_heap_other (fun e => by subst e; rw [h] at hk; cases hk; rw [ho] at hu; cases hu)).trans hk⟩
theorem CellsSame.ownsRow {W W' : World} {B : Nat} {e : TypeId} {s : Nat} {v : Value} {n : Nat} {xs : List Value} (h : CellsSame W W') (hr : W.ownsRow B e s v n xs) : W'.ownsRow B e s v n xs := by
  obtain ⟨h1, h2 | ⟨g, cap, cur, rfl, e2, e3, e4⟩⟩ := hr
  · exact ⟨h1, .inl h2⟩
  · exact ⟨h1, .inr ⟨g, cap, cur, rfl, e2, h.same g _ e3 rfl, e4⟩⟩
theorem below_putObj {n : Nat} {w W : World} {l : Nat} {o' : Go.Obj} (h : Below n w W) (hl : n ≤ l) : Below n w (W.putObj l o') :=
  ⟨h.os, h.tape, h.output, by have := h.size; simpa using this, fun k hk => (World.putObj_heap_other (by omega)).trans (h.block k hk)⟩
theorem atR_putObj {x : Rc} {W : World} {l : Nat} {o o' : Go.Obj} (h : AtR x W) (hl : W.heap[l]? = some o) (ho : o.isCells = false) : AtR x (W.putObj l o') := by
  obtain ⟨h1, h2, h3⟩ := h
  refine ⟨h1, h2, fun k hk => ?_⟩
  have h4 := h3 k hk
  have hb : x.b ≠ l := fun e => by
    unfold World.cell? at h4
    simp only [e] at h4
    rw [hl] at h4
    cases o <;> simp_all [Go.Obj.isCells]
  exact (World.cell?_of_block (World.putObj_heap_other hb)).trans h4

def CleanPost (w : World) (B p : Nat) (v : Value) (rs : List Bs) (most : Nat) (e : Ending) (w' : World) : Prop :=
  e = .returned (.int .i64 0) ∧ ∃ u n', (encs rs 0).length = n' * 64 ∧ LogAt w' B p u n' (encs rs 0) n' most ∧ (∀ k, u.ownBlock = some k → w.heap.size ≤ k) ∧ Keeps (fun i => i = p) w w'
set_option maxRecDepth 100000 in
set_option maxHeartbeats 1000000 in
theorem clean_nil (w : World) : Calls Try.prog 51 #[.pointer none] w fun e w' => e = .returned (.int .i64 1) ∧ w' = w := by
  go_enter Try.func51, Try.ntmps51
  go_wp2
  go_ret
  exact ⟨rfl, rfl⟩

/-- the last block of what has come -/
def lastAt (xs : List Rc) : Nat := (xs.getLast?.map (·.at')).getD 0

set_option maxRecDepth 100000 in
set_option maxHeartbeats 2000000 in
theorem clean_any (w : World) (B p : Nat) (v : Value) (n : Nat) (bs : Bs) (last most : Nat) (rs : List Bs) (h : LogAt w B p v n bs last most) (hrs : Parsed bs rs) : Calls Try.prog 51 #[.pointer (some ⟨p, 0, none⟩)] w (CleanPost w B p v rs most) := by
  have H := Lib.hid h
  have HRS := Lib.hid hrs
  have hn := h.hn
  have hm := h.hm
  have hl := h.hl
  have hbl := Lib.hid h.row.1
  obtain ⟨a, c, rfl⟩ := h.lv
  have hnc := h.cap
  clear h hrs
  refine calls_of_wp_marks Try.func51 rfl ?_
  simp only [Try.ntmps51, List.size_toArray, List.length_cons, List.length_nil, Nat.reduceAdd, Nat.reduceSub, Array.replicate_succ, Array.replicate_zero, List.push_toArray, List.append_toArray, List.nil_append, List.cons_append]
  go_wp2_with (go_at_call 40; refine (records_any _ _ ⟨_, rfl⟩).mono ?_; rintro e w' ⟨rfl, rfl⟩)
  refine wp_range_all (gf := 63) (lb := #[.pointer (some ⟨w.heap.size + 1, 0, none⟩)]) rfl (enters_of Try.func63 (by kernel_rfl) rfl) 5000 encR (fun _ => rfl) AtR (AllR bs) (Keeps (fun i => ¬ (i < w.heap.size ∨ i = w.heap.size + 1)))
    (fun x W l o o' h hl ho => atR_putObj h hl ho) (fun h k => h.trans k) (fun W l o o' hl h ho => ⟨rfl, rfl, rfl, by simp, fun k hk hf => World.putObj_heap_other (by simp at hl; have := Classical.not_not.1 hf; omega)⟩)
    (fun pre W => W.heap[w.heap.size]? = some (.cells #[.int .i64 (lastAt pre : Nat)] 3 (0, 0)) ∧ Below w.heap.size w W)
    (fun pre W W' hI hb => ⟨(hb.block _ (heap_lt hI.1)).trans hI.1, hI.2.trans (hb.mono hI.2.size)⟩)
    (fun pre W l o o' hl hI h ho => ⟨(World.putObj_heap_other (by simp at hl; omega)).trans hI.1, below_putObj hI.2 (by simp at hl; omega)⟩)
    ⟨(heap_alloc_lt (by simp)).trans heap_alloc_eq, ((Below.refl _ w).alloc (Nat.le_refl _) _).alloc (by simp) _⟩ ?seq ?a1 ?assign ?body ?done
  case assign =>
    intro l x W K hK
    dsimp only [encR]
    gi_wp2
    exact hK
  case seq =>
    intro l J W hW hWs hJ hY h0
    have hW0 : Below w.heap.size w W := (((Below.refl _ w).alloc (Nat.le_refl _) _).alloc (by simp) _).trans (hW.mono (by simp; omega))
    exact rec1_any B p (.slice a n c) n bs last most (w.heap.size + 1) l W (H.out.below hW0) ((hW.block _ (by simp)).trans (by have := heap_alloc_eq (w := w.alloc (.cells #[.int .i64 0] 3)) (o := .cells #[.pointer (some ⟨p, 0, none⟩)] 38); simpa using this)) _ (.inl H.out.lt.1) (.inr rfl) (fun k hk => .inl (H.out.lt.2 k hk).2) J hJ hY h0
  case body =>
    rintro l pre x W hWs ⟨hc, hb⟩ hat hN
    obtain ⟨c0, f0⟩ := cells_of_block hc 0 (.int .i64 (lastAt pre : Nat)) rfl
    gi_wp2
    have hz : w.heap.size < W.heap.size := heap_lt hc
    refine ⟨KeepsOthers.setCell _ _ _, ⟨rfl, rfl, rfl, by simp [World.setCell], fun k hk hf => heap_setCell_ne (fun e => by have := Classical.not_not.1 hf; simp at e; omega)⟩, ?_, hb.setCell (p := ⟨w.heap.size, 0, none⟩) (Nat.le_refl _) _⟩
    rw [heap_setCell_same hc]
    simp [lastAt]
  case done =>
    rintro D xs W hD ⟨hP, hlast⟩ ⟨hc, hb⟩ hK
    have HLW := Lib.hid (H.out.below hb)
    obtain ⟨c0, f0⟩ := cells_of_block hc 0 (.int .i64 (lastAt xs : Nat)) rfl
    obtain ⟨c1, f1⟩ := cells_of_block HLW.out.cells 0 (.slice a n c) rfl
    have hds : xs.map (·.d) = rs := parsed_unique hP HRS.out
    have hM : (encs rs 0).length = lastAt xs * 64 := by
      rw [← hds]
      cases hx : xs.getLast? with
      | none =>
        have : xs = [] := by simpa using hx
        subst this
        simp [encs, lastAt]
      | some x => rw [← hlast x hx]; simp [lastAt, hx]
    have HM := Lib.hid hM
    obtain ⟨_, rest, hbs, _⟩ := HRS.out
    have HE := Lib.hid (show bs.take (lastAt xs * 64) = encs rs 0 by rw [← hM, hbs]; simp)
    have hMn : lastAt xs ≤ n := by
      have : (encs rs 0).length ≤ bs.length := by rw [hbs]; simp
      have := hbl.out
      omega
    have HD := Lib.hid hD
    have HB := Lib.hid hb
    have HK := Lib.hid hK
    have HLX := Lib.hid hlast
    generalize lastAt xs = M at *
    clear hbs hds hM hlast hP hc hb hK hD
    have hMc : M ≤ c := by omega
    have hpn : p ≠ w.heap.size := by have := H.out.lt.1; omega
    have HT := Lib.hid (show IsL W.drew (.slice a M c) M (bs.take (M * 64)) from (HLW.out.row.take hMn).below (Below.refl _ W).drew)
    have HC0 := Lib.hid c0
    have HC1 := Lib.hid (show W.drew.heap[p]? = some (.cells #[.slice a n c, .int .i64 (last : Int), .int .i64 (most : Int)] 83 (0, 0)) from HLW.out.cells)
    go_wp2
    refine wp_region_N (fun w' => (w'.cell? ⟨w.heap.size, 0, none⟩ = some (.int .i64 (M : Nat))))
      [(true, 0), (true, 1), (true, 2), (true, 3), (true, 5), (false, 4), (true, 6), (false, 7), (true, 8), (true, 9), (false, 10)] (by kernel_rfl) (by kernel_rfl) rfl (by kernel_rfl) ?_ ?_
    · exact (by first | go_keep | exact HC0.out | exact K0.out | exact (World.cell?_of_block (heap_setCell_ne (fun e => hpn e.symm))).trans K0.out)
    simp only [List.filterMap_cons, List.filterMap_nil, List.getElem?_cons_succ, List.getElem?_cons_zero, Option.map_some]
    iterate 5
     apply wpSeq_takeK _ (by first | rfl | (simp [Region.wanted, yielded]; done))
     · intro w' hS
       have s0 := hS
       clear hS
       go_simp
       try rfl
     intro K hK
     go_simp
     refine hK _ ?_
     clear hK K
    refine wpSeq_alone ?_
    go_wp2
    refine QS_normal (by first | go_keep | exact HC0.out | exact K0.out | exact (World.cell?_of_block (heap_setCell_ne (fun e => hpn e.symm))).trans K0.out) (fun _ => ?_)
    apply wpSeq_takeK _ (by first | rfl | (simp [Region.wanted, yielded]; done))
    · intro w' hS
      have s0 := hS
      clear hS
      go_simp
      try rfl
    intro K hK
    go_simp
    refine hK _ ?_
    clear hK K
    refine wpSeq_alone ?_
    (go_wp2_with (go_at_call 58; refine (cloneL_any M (bs.take (M * 64)) _ _ (by omega) HT.out).mono ?_; rintro e w2 ⟨u, rfl, ho, hb⟩; obtain ⟨d0, g0⟩ := cells_of_block ((hb.block p (heap_lt HC1.out)).trans HC1.out) 0 _ rfl; obtain ⟨au, cu, rfl⟩ := ho.lv; have K0 := Lib.hid ((hb.cell (p := ⟨w.heap.size, 0, none⟩) (World.block_lt_of_cell? W _ HC0.out)).trans HC0.out); have HO := Lib.hid ho; have HB2 := Lib.hid hb; clear ho hb))
    refine QS_normal (by first | go_keep | exact HC0.out | exact K0.out | exact (World.cell?_of_block (heap_setCell_ne (fun e => hpn e.symm))).trans K0.out) (fun _ => ?_)
    iterate 2
     apply wpSeq_takeK _ (by first | rfl | (simp [Region.wanted, yielded]; done))
     · intro w' hS
       have s0 := hS
       clear hS
       go_simp
       try rfl
     intro K hK
     go_simp
     refine hK _ ?_
     clear hK K
    refine wpSeq_alone ?_
    go_wp2
    refine QS_normal (by first | go_keep | exact HC0.out | exact K0.out | exact (World.cell?_of_block (heap_setCell_ne (fun e => hpn e.symm))).trans K0.out) (fun _ => ?_)
    refine wpSeq_end ?_
    go_wp2_with (go_at_call 57; refine (sync_core _ B p (.slice au M cu) M (bs.take (M * 64)) last most ?cl ⟨HO.out.1, ?rw⟩ H.out.base (by omega) hm).mono ?_)
    case cl =>
      rw [heap_setCell_same ((HB2.out.block p (heap_lt HC1.out)).trans HC1.out)]; rfl
    case rw =>
      refine ownsRow_of_heap (ownsRow_mono HO.out.2 (Nat.le_of_lt (Nat.lt_of_le_of_lt H.out.base (heap_lt HC1.out)))) fun k hk => heap_setCell_ne fun e => ?_
      have hke : k = p := e
      have h1 := (HO.out.2.lt k hk).1
      have h2 := heap_lt HC1.out
      omega
    rintro e w4 ⟨rfl, hlog, hkeep⟩
    have HL := Lib.hid hlog
    have HK4 := Lib.hid hkeep
    clear hlog hkeep d0 g0
    go_wp2
    have hD2 : w.heap.size + 2 ≤ D := by have := HD.out; simpa using this
    have hpD : p ≠ D := by have := H.out.lt.1; omega
    have hKD : w4.heap[D]? = some (.deferred (some [])) := by
      rw [HK4.out.block D (by have h1 := heap_lt HK.out; have h2 := HB2.out.size; simp [World.setCell]; exact Nat.lt_of_lt_of_le h1 h2) (fun e => hpD e.symm), heap_setCell_ne (fun e => hpD e.symm)]
      exact (HB2.out.block D (heap_lt HK.out)).trans HK.out
    refine marks_ret rfl hKD (fun w => results_tmp rfl _ _ _) ⟨rfl, .slice au M cu, M, HM.out, ?_, fun k hk => ?_, ?_⟩
    · have hu := HL.out.lt
      have hne : ∀ i, i = p ∨ (Value.slice au M cu).ownBlock = some i → (w4.putObj D (.deferred none)).heap[i]? = w4.heap[i]? := fun i hi => World.putObj_heap_other fun e => by
        subst e
        rcases hi with hi | hi
        · exact hpD hi.symm
        · have h1 := (HO.out.2.lt i hi).1
          have h2 := heap_lt HK.out
          have h3 : W.drew.heap.size = W.heap.size := rfl
          omega
      have := HL.out.kept hne
      rw [HE.out] at this
      exact this
    · have h1 := (HO.out.2.lt k hk).1
      have h2 := HB.out.size
      have h3 : W.drew.heap.size = W.heap.size := rfl
      omega
    · have k1 : Keeps (fun i => i = p) w w2 := ((Keeps.of_below HB.out).drew).trans ⟨HB2.out.os, HB2.out.tape, HB2.out.output, HB2.out.size, fun k hk _ => HB2.out.block k hk⟩
      have k2 := (k1.setCell (p := ⟨p, 0, none⟩) (fun _ => rfl) (.slice au M cu)).trans HK4.out
      exact ⟨k2.os, k2.tape, k2.output, by simpa using k2.size, fun k hk hf => (World.putObj_heap_other (by omega)).trans (k2.block k hk hf)⟩

end Go.Proofs.Ytobpohjhhelljaa
