/- Layer 5 (blocks): both logs side by side. -/
import Derived.Test.YtmkfiecdgghceaaC6
import Derived.Test.YtmkfiecdgghceaaC7
import Derived.Test.YtmkfiecdgghceaaB12
namespace Go.Proofs.Ytmkfiecdgghceaa
open Go.RowKit
set_option linter.unusedVariables false
set_option linter.unusedSimpArgs false

theorem Keeps.of_below' {F : Nat → Prop} {w w' : World} (h : Below w.heap.size w w') : Keeps F w w' := Keeps.of_below h

/-- bytes that can be read: where there are none, the address says nothing -/
def Src (w : World) (x : Value) (l : Bs) : Prop := ∃ a c, x = .slice a l.length c ∧ l.length ≤ c ∧ c ≤ maxLen ∧ (0 < l.length → ∃ b o, a = some ⟨b, o, none⟩ ∧ ∀ k (hk : k < l.length), w.cell? ⟨b, o + k, none⟩ = some (.int .u8 (l[k].toNat : Int)))
theorem IsB.src {w : World} {x : Value} {l : Bs} (h : IsB w x l) : Src w x l := by
  rcases h with ⟨rfl, rfl⟩ | ⟨b, o, c, e, h1, h2, h3⟩
  · exact ⟨none, 0, rfl, Nat.le_refl _, by unfold maxLen; omega, fun h => absurd h (by simp)⟩
  · exact ⟨_, c, e, h1, h2, fun _ => ⟨b, o, rfl, h3⟩⟩
theorem Src.isB {w : World} {x : Value} {l : Bs} (h : Src w x l) (hl : 0 < l.length) : IsB w x l := by
  obtain ⟨a, c, e, h1, h2, h3⟩ := h
  obtain ⟨b, o, rfl, h4⟩ := h3 hl
  exact .inr ⟨b, o, c, e, h1, h2, h4⟩
theorem Src.rd {w : World} {x : Value} {l : Bs} (h : Src w x l) : ∃ a c, x = .slice a l.length c ∧ RdAt w a l := by
  obtain ⟨a, c, e, _, _, h3⟩ := h
  refine ⟨a, c, e, ?_⟩
  by_cases hl : 0 < l.length
  · exact .inr (h3 hl)
  · exact .inl (List.length_eq_zero_iff.1 (by omega))
/-- bytes of an argument: they lie below block B -/
def ArgB (w : World) (B : Nat) (x : Value) (l : Bs) : Prop := ∃ a c, x = .slice a l.length c ∧ l.length ≤ c ∧ c ≤ maxLen ∧ (0 < l.length → ∃ b o, a = some ⟨b, o, none⟩ ∧ b < B ∧ ∀ k (hk : k < l.length), w.cell? ⟨b, o + k, none⟩ = some (.int .u8 (l[k].toNat : Int)))
theorem ArgB.isB {w : World} {B : Nat} {x : Value} {l : Bs} (h : ArgB w B x l) : Src w x l := by
  obtain ⟨a, c, e, h1, h2, h3⟩ := h
  refine ⟨a, c, e, h1, h2, fun hl => ?_⟩
  obtain ⟨b, o, rfl, _, h4⟩ := h3 hl
  exact ⟨b, o, rfl, h4⟩
theorem ArgB.kept {w w' : World} {B : Nat} {x : Value} {l : Bs} (h : ArgB w B x l) (hk : Keeps (fun i => B ≤ i) w w') : ArgB w' B x l := by
  obtain ⟨a, c, e, h1, h2, h3⟩ := h
  refine ⟨a, c, e, h1, h2, fun hl => ?_⟩
  obtain ⟨b, o, rfl, hb, h4⟩ := h3 hl
  exact ⟨b, o, rfl, hb, fun k hkk => (World.cell?_of_block (a := ⟨b, o + k, none⟩) (hk.block b (World.block_lt_of_cell? w _ (h4 k hkk)) (by omega))).trans (h4 k hkk)⟩
theorem ArgB.take {w : World} {B : Nat} {a : Option Addr} {c M : Nat} {l : Bs} (h : ArgB w B (.slice a l.length c) l) (hM : M ≤ l.length) : ArgB w B (.slice a M c) (l.take M) := by
  obtain ⟨a', c', e, h1, h2, h3⟩ := h
  simp only [Value.slice.injEq, true_and] at e
  obtain ⟨rfl, rfl⟩ := e
  refine ⟨a, c, by rw [List.length_take, Nat.min_eq_left hM], by rw [List.length_take]; omega, h2, fun hl => ?_⟩
  rw [List.length_take] at hl
  obtain ⟨b, o, rfl, hb, h4⟩ := h3 (by omega)
  refine ⟨b, o, rfl, hb, fun k hk => ?_⟩
  rw [List.length_take] at hk
  rw [List.getElem_take]
  exact h4 k (by omega)
theorem ArgB.lv {w : World} {B : Nat} {x : Value} {l : Bs} (h : ArgB w B x l) : ∃ a c, x = .slice a l.length c ∧ l.length ≤ c ∧ c ≤ maxLen := by
  obtain ⟨a, c, e, h1, h2, _⟩ := h
  exact ⟨a, c, e, h1, h2⟩
theorem ArgB.mono {w : World} {B B' : Nat} {x : Value} {l : Bs} (h : ArgB w B x l) (hB : B ≤ B') : ArgB w B' x l := by
  obtain ⟨a, c, e, h1, h2, h3⟩ := h
  refine ⟨a, c, e, h1, h2, fun hl => ?_⟩
  obtain ⟨b, o, rfl, hb, h4⟩ := h3 hl
  exact ⟨b, o, rfl, by omega, h4⟩

def appF (most n : Nat) (bs : Bs) (k : Nat) (l : Bs) : Int × Nat × Bs :=
  if l.length < 1 ∨ 1024 < l.length then (3, n, bs) else if most - n < needN l.length then (7, n, bs) else (0, n + needN l.length, bs ++ recd l (k + 1))

theorem append_gen (w : World) (B p : Nat) (v : Value) (n : Nat) (bs : Bs) (last most : Nat) (rs : List Bs) (h : LogAt w B p v n bs last most) (hrs : Parsed bs rs) (x : Value) (l : Bs) (hx : Src w x l) (hxl : l.length ≤ maxLen) :
    Calls Try.prog 17 #[.pointer (some ⟨p, 0, none⟩), x] w fun e w' => e = .returned (.int .i64 (appF most n bs rs.length l).1) ∧ (∃ u, LogAt w' B p u (appF most n bs rs.length l).2.1 (appF most n bs rs.length l).2.2 last most) ∧ Keeps (fun i => i = p ∨ v.ownBlock = some i) w w' := by
  by_cases hb : l.length < 1 ∨ 1024 < l.length
  · obtain ⟨a, c, rfl, _⟩ := hx.rd
    refine (append_bad w p a l.length c hxl hb).mono ?_
    rintro e w' ⟨rfl, rfl⟩
    unfold appF; rw [if_pos hb]
    exact ⟨rfl, ⟨v, h⟩, Keeps.refl _ _⟩
  · by_cases hf : most - n < needN l.length
    · obtain ⟨a, c, rfl, _⟩ := hx.rd
      refine (append_full w B p v n bs last most h a l.length c (by omega) (by omega) hf).mono ?_
      rintro e w' ⟨rfl, hbl⟩
      unfold appF; rw [if_neg hb, if_pos hf]
      exact ⟨rfl, ⟨v, h.below hbl⟩, Keeps.of_below hbl⟩
    · obtain ⟨a, c, rfl, h1, h2, h3⟩ := hx
      obtain ⟨b, o, rfl, h4⟩ := h3 (by omega)
      · refine (append_any w B p v n bs last most rs h hrs l b o c (by omega) (by omega) h1 h2 h4 (by omega)).mono ?_
        rintro e w' ⟨rfl, u, hl, _, hk⟩
        unfold appF; rw [if_neg hb, if_neg hf]
        exact ⟨rfl, ⟨u, hl⟩, hk⟩
theorem appendR_gen (w : World) (B q : Nat) (v : Value) (n : Nat) (bs : Bs) (last most : Nat) (rs : List Bs) (h : RefAt w B q v bs last most) (hnl : bs.length = n * 64) (hrs : Parsed bs rs) (x : Value) (l : Bs) (hx : Src w x l) (hxl : l.length ≤ maxLen) :
    Calls Try.prog 39 #[.pointer (some ⟨q, 0, none⟩), x] w fun e w' => e = .returned (.int .i64 (appF most n bs rs.length l).1) ∧ (∃ u, RefAt w' B q u (appF most n bs rs.length l).2.2 last most) ∧ Keeps (fun i => i = q ∨ v.ownBlock = some i) w w' := by
  by_cases hb : l.length < 1 ∨ 1024 < l.length
  · obtain ⟨a, c, rfl, _⟩ := hx.rd
    refine (appendR_bad w q a l.length c hxl hb).mono ?_
    rintro e w' ⟨rfl, rfl⟩
    unfold appF; rw [if_pos hb]
    exact ⟨rfl, ⟨v, h⟩, Keeps.refl _ _⟩
  · by_cases hf : most - n < needN l.length
    · obtain ⟨a, c, rfl, _⟩ := hx.rd
      refine (appendR_full w B q v n bs last most h hnl a l.length c (by omega) (by omega) hf).mono ?_
      rintro e w' ⟨rfl, hbl⟩
      unfold appF; rw [if_neg hb, if_pos hf]
      exact ⟨rfl, ⟨v, h.below hbl⟩, Keeps.of_below hbl⟩
    · refine (appendR_any w B q v n bs last most rs h hnl hrs l x (by omega) (by omega) (hx.isB (by omega)) (by omega)).mono ?_
      rintro e w' ⟨rfl, u, hl, _, hk⟩
      unfold appF; rw [if_neg hb, if_neg hf]
      exact ⟨rfl, ⟨u, hl⟩, hk.mono fun i _ e => .inl e⟩

def crF (n last : Nat) (bs : Bs) (keep torn : Int) : Int × Nat × Bs × Nat :=
  if keep < 0 ∨ torn < 0 ∨ 64 < torn then (3, n, bs, last) else (0, (crashB bs n last keep torn).1, (crashB bs n last keep torn).2, (crashB bs n last keep torn).1)
theorem crash_gen (w : World) (B p : Nat) (v : Value) (n : Nat) (bs : Bs) (last most : Nat) (h : LogAt w B p v n bs last most) (keep torn : Int) (hk : keep ≤ 9223372036854775807) :
    Calls Try.prog 20 #[.pointer (some ⟨p, 0, none⟩), .int .i64 keep, .int .i64 torn] w fun e w' => e = .returned (.int .i64 (crF n last bs keep torn).1) ∧ (∃ u, LogAt w' B p u (crF n last bs keep torn).2.1 (crF n last bs keep torn).2.2.1 (crF n last bs keep torn).2.2.2 most) ∧ Keeps (fun i => i = p ∨ v.ownBlock = some i) w w' := by
  by_cases hb : keep < 0 ∨ torn < 0 ∨ 64 < torn
  · refine (crash_bad w p keep torn hb).mono ?_
    rintro e w' ⟨rfl, rfl⟩
    unfold crF; rw [if_pos hb]
    exact ⟨rfl, ⟨v, h⟩, Keeps.refl _ _⟩
  · unfold crF; rw [if_neg hb]
    unfold crashB
    by_cases ht : 0 < torn ∧ crashN n last keep < n
    · rw [if_pos ht]
      by_cases h64 : torn = 64
      · refine (crash_tear64 w B p v n bs last most keep torn h (by omega) (by omega) (by omega) hk ⟨ht.1, h64, ht.2⟩).mono ?_
        rintro e w' ⟨rfl, u, hl, _, hkp⟩
        exact ⟨rfl, ⟨u, hl⟩, hkp⟩
      · refine (crash_tear w B p v n bs last most keep torn h (by omega) (by omega) (by omega) hk ⟨ht.1, by omega, ht.2⟩).mono ?_
        rintro e w' ⟨rfl, u, hl, _, hkp⟩
        exact ⟨rfl, ⟨u, hl⟩, hkp⟩
    · rw [if_neg ht]
      refine (crash_keep w B p v n bs last most keep torn h (by omega) (by omega) (by omega) hk (by omega)).mono ?_
      rintro e w' ⟨rfl, u, hl, _, hkp⟩
      exact ⟨rfl, ⟨u, hl⟩, hkp⟩
theorem crashB_length {bs : Bs} {n last : Nat} {keep torn : Int} (hl : bs.length = n * 64) (hln : last ≤ n) (h2 : 0 ≤ torn) (h3 : torn ≤ 64) : (crashB bs n last keep torn).2.length = (crashB bs n last keep torn).1 * 64 := by
  have hM : crashN n last keep ≤ n := by unfold crashN; omega
  unfold crashB
  split
  · rename_i ht
    simp only [List.length_append, List.length_take, List.length_replicate]
    omega
  · simp only [List.length_take]; omega
theorem crashR_gen (w : World) (B q : Nat) (v : Value) (n : Nat) (bs : Bs) (last most : Nat) (h : RefAt w B q v bs (last * 64) most) (hnl : bs.length = n * 64) (keep torn : Int) :
    Calls Try.prog 41 #[.pointer (some ⟨q, 0, none⟩), .int .i64 keep, .int .i64 torn] w fun e w' => e = .returned (.int .i64 (crF n last bs keep torn).1) ∧ (∃ u, RefAt w' B q u (crF n last bs keep torn).2.2.1 ((crF n last bs keep torn).2.2.2 * 64) most) ∧ Keeps (fun i => i = q ∨ v.ownBlock = some i) w w' := by
  have hln : last ≤ n := by have := h.hl; omega
  by_cases hb : keep < 0 ∨ torn < 0 ∨ 64 < torn
  · refine (crashR_bad w q keep torn hb).mono ?_
    rintro e w' ⟨rfl, rfl⟩
    unfold crF; rw [if_pos hb]
    exact ⟨rfl, ⟨v, h⟩, Keeps.refl _ _⟩
  · unfold crF; rw [if_neg hb]
    have hlen := crashB_length (bs := bs) (n := n) (last := last) (keep := keep) (torn := torn) hnl hln (by omega) (by omega)
    suffices Calls Try.prog 41 #[.pointer (some ⟨q, 0, none⟩), .int .i64 keep, .int .i64 torn] w (CrashRPost w B q (crashB bs n last keep torn).2 most) from this.mono (by
      rintro e w' ⟨rfl, u, hl, _, hkp⟩
      rw [hlen] at hl
      exact ⟨rfl, ⟨u, hl⟩, hkp.mono fun i _ e => .inl e⟩)
    unfold crashB
    by_cases ht : 0 < torn ∧ crashN n last keep < n
    · rw [if_pos ht]
      by_cases hk : (n : Int) - (last : Int) < keep
      · exact crashR_tear_a w B q v n bs last most keep torn h hnl (by omega) (by omega) (by omega) hk ht
      · exact crashR_tear_b w B q v n bs last most keep torn h hnl (by omega) (by omega) (by omega) (by omega) ht
    · rw [if_neg ht]
      by_cases hk : (n : Int) - (last : Int) < keep
      · exact crashR_keep_a w B q v n bs last most keep torn h hnl (by omega) (by omega) (by omega) hk (by omega)
      · exact crashR_keep_b w B q v n bs last most keep torn h hnl (by omega) (by omega) (by omega) (by omega) (by omega)

/-- both logs, of the same bytes -/
def Sim (w : World) (B p q n : Nat) (bs : Bs) (last most : Nat) : Prop := ∃ v u, LogAt w B p v n bs last most ∧ RefAt w B q u bs (last * 64) most
theorem log_apart {w w' : World} {B p q n : Nat} {v u : Value} {bs bs' : Bs} {last last' most most' : Nat} (h : LogAt w B p v n bs last most) (k : RefAt w B q u bs' last' most') : ∀ i, (i = p ∨ v.ownBlock = some i) → ¬ (i = q ∨ u.ownBlock = some i) := by
  have hr : ∀ i, v.ownBlock = some i → ∃ cur, w.heap[i]? = some (.cells cur 64 (0, 0)) := fun i hi => by
    obtain ⟨_, _, ⟨rfl, _⟩ | ⟨g, cap, cur, rfl, _, hg, _⟩⟩ := h.row
    · simp [Value.ownBlock] at hi
    · simp [Value.ownBlock] at hi; subst hi; exact ⟨cur, hg⟩
  have hs : ∀ i, u.ownBlock = some i → ∃ cur, w.heap[i]? = some (.cells cur 5 (0, 0)) := fun i hi => by
    obtain ⟨_, ⟨rfl, _⟩ | ⟨g, cap, cur, rfl, _, hg, _⟩⟩ := k.row
    · simp [Value.ownBlock] at hi
    · simp [Value.ownBlock] at hi; subst hi; exact ⟨cur, hg⟩
  intro i hi hj
  have h1 : (w.heap[i]? = some (.cells #[v, .int .i64 (last : Int), .int .i64 (most : Int)] 58 (0, 0))) ∨ ∃ cur, w.heap[i]? = some (.cells cur 64 (0, 0)) := by
    rcases hi with rfl | hi
    · exact .inl h.cells
    · exact .inr (hr i hi)
  have h2 : (w.heap[i]? = some (.cells #[u, .int .i64 (last' : Int), .int .i64 (most' : Int)] 69 (0, 0))) ∨ ∃ cur, w.heap[i]? = some (.cells cur 5 (0, 0)) := by
    rcases hj with rfl | hj
    · exact .inl k.cells
    · exact .inr (hs i hj)
  rcases h1 with h1 | ⟨c1, h1⟩ <;> rcases h2 with h2 | ⟨c2, h2⟩ <;> (rw [h1] at h2; simp at h2)
theorem RefAt.keptL {w w' : World} {B p q n : Nat} {v u : Value} {bs bs' : Bs} {last last' most most' : Nat} (h : LogAt w B p v n bs last most) (k : RefAt w B q u bs' last' most') (hk : Keeps (fun i => i = p ∨ v.ownBlock = some i) w w') : RefAt w' B q u bs' last' most' :=
  k.kept fun i hi => hk.block i (by rcases hi with rfl | hi; exact k.lt.1; exact (k.lt.2 i hi).2) (fun hj => log_apart (w' := w) h k i hj hi)
theorem LogAt.keptR {w w' : World} {B p q n : Nat} {v u : Value} {bs bs' : Bs} {last last' most most' : Nat} (h : LogAt w B p v n bs last most) (k : RefAt w B q u bs' last' most') (hk : Keeps (fun i => i = q ∨ u.ownBlock = some i) w w') : LogAt w' B p v n bs last most :=
  h.kept fun i hi => hk.block i (by rcases hi with rfl | hi; exact h.lt.1; exact (h.lt.2 i hi).2) (fun hj => log_apart (w' := w) h k i hi hj)
theorem LogAt.keepB {w w' : World} {B p n : Nat} {v : Value} {bs : Bs} {last most : Nat} (h : LogAt w B p v n bs last most) (hk : Keeps (fun i => i = p ∨ v.ownBlock = some i) w w') : Keeps (fun i => B ≤ i) w w' :=
  hk.mono fun i _ e => by rcases e with rfl | e; exact h.base; exact (h.lt.2 i e).1
theorem RefAt.keepB {w w' : World} {B q : Nat} {v : Value} {bs : Bs} {last most : Nat} (h : RefAt w B q v bs last most) (hk : Keeps (fun i => i = q ∨ v.ownBlock = some i) w w') : Keeps (fun i => B ≤ i) w w' :=
  hk.mono fun i _ e => by rcases e with rfl | e; exact h.base; exact (h.lt.2 i e).1

end Go.Proofs.Ytmkfiecdgghceaa
