/- Layer 5 (blocks): Append and Crash at whatever arguments (the program's alone; out of c8.tpl). -/
import Derived.Test.YtobpohjhhelljaaB10
import Derived.Test.YtobpohjhhelljaaB7
namespace Go.Proofs.Ytobpohjhhelljaa
open Go.RowKit
set_option linter.unusedVariables false
set_option linter.unusedSimpArgs false


theorem Keeps.of_below' {F : Nat → Prop} {w w' : World} (h : Below w.heap.size w w') : Keeps F w w' := Keeps.of_below h

/-- bytes that can be read: where there are none, the address says nothing -/
def Src (w : World) (x : Value) (l : Bs) : Prop := ∃ a c, x = .slice a l.length c ∧ l.length ≤ c ∧ c ≤ maxLen ∧ (0 < l.length → ∃ b o, a = some ⟨b, o, none⟩ ∧ ∀ k (hk : k < l.length), w.cell? ⟨b, o + k, none⟩ = some (.int .u8 (l[k].toNat : Int)))
theorem IsB.src {w : World} {x : Value} {l : Bs} (h : IsB w x l) : Src w x l := by
  rcases h with ⟨rfl, rfl⟩ | ⟨b, o, c, e, h1, h2, h3⟩
  · exact ⟨none, 0, rfl, Nat.le_refl _, by unfold maxLen; omega, fun h => absurd h (by simp)⟩
  · exact ⟨_, c, e, h1, h2, fun _ => ⟨b, o, rfl, h3⟩⟩
theorem Src.isB {w : World} {x : Value} {l : Bs} (h : Src w x l) (hl : 0 < l.length) : IsB w x l := by
  obtain ⟨a, c, e, h1, h2, h3⟩ := h
  obtain ⟨b, o, rfl, h4⟩ := h3 hl
  exact .inr ⟨b, o, c, e, h1, h2, h4⟩
theorem Src.rd {w : World} {x : Value} {l : Bs} (h : Src w x l) : ∃ a c, x = .slice a l.length c ∧ RdAt w a l := by
  obtain ⟨a, c, e, _, _, h3⟩ := h
  refine ⟨a, c, e, ?_⟩
  by_cases hl : 0 < l.length
  · exact .inr (h3 hl)
  · exact .inl (List.length_eq_zero_iff.1 (by omega))
def appF (most n : Nat) (bs : Bs) (k : Nat) (l : Bs) : Int × Nat × Bs :=
  if l.length < 1 ∨ 1024 < l.length then (3, n, bs) else if most - n < needN l.length then (7, n, bs) else (0, n + needN l.length, bs ++ recd l (k + 1))

theorem append_gen (w : World) (B p : Nat) (v : Value) (n : Nat) (bs : Bs) (last most : Nat) (rs : List Bs) (h : LogAt w B p v n bs last most) (hrs : Parsed bs rs) (x : Value) (l : Bs) (hx : Src w x l) (hxl : l.length ≤ maxLen) :
    Calls Try.prog 12 #[.pointer (some ⟨p, 0, none⟩), x] w fun e w' => e = .returned (.int .i64 (appF most n bs rs.length l).1) ∧ (∃ u, LogAt w' B p u (appF most n bs rs.length l).2.1 (appF most n bs rs.length l).2.2 last most) ∧ Keeps (fun i => i = p ∨ v.ownBlock = some i) w w' := by
  by_cases hb : l.length < 1 ∨ 1024 < l.length
  · obtain ⟨a, c, rfl, _⟩ := hx.rd
    refine (append_bad w p a l.length c hxl hb).mono ?_
    rintro e w' ⟨rfl, rfl⟩
    unfold appF; rw [if_pos hb]
    exact ⟨rfl, ⟨v, h⟩, Keeps.refl _ _⟩
  · by_cases hf : most - n < needN l.length
    · obtain ⟨a, c, rfl, _⟩ := hx.rd
      refine (append_full w B p v n bs last most h a l.length c (by omega) (by omega) hf).mono ?_
      rintro e w' ⟨rfl, hbl⟩
      unfold appF; rw [if_neg hb, if_pos hf]
      exact ⟨rfl, ⟨v, h.below hbl⟩, Keeps.of_below hbl⟩
    · obtain ⟨a, c, rfl, h1, h2, h3⟩ := hx
      obtain ⟨b, o, rfl, h4⟩ := h3 (by omega)
      · refine (append_any w B p v n bs last most rs h hrs l b o c (by omega) (by omega) h1 h2 h4 (by omega)).mono ?_
        rintro e w' ⟨rfl, u, hl, _, hk⟩
        unfold appF; rw [if_neg hb, if_neg hf]
        exact ⟨rfl, ⟨u, hl⟩, hk⟩
def crF (n last : Nat) (bs : Bs) (keep torn : Int) : Int × Nat × Bs × Nat :=
  if keep < 0 ∨ torn < 0 ∨ 64 < torn then (3, n, bs, last) else (0, (crashB bs n last keep torn).1, (crashB bs n last keep torn).2, (crashB bs n last keep torn).1)
theorem crash_gen (w : World) (B p : Nat) (v : Value) (n : Nat) (bs : Bs) (last most : Nat) (h : LogAt w B p v n bs last most) (keep torn : Int) (hk : keep ≤ 9223372036854775807) :
    Calls Try.prog 37 #[.pointer (some ⟨p, 0, none⟩), .int .i64 keep, .int .i64 torn] w fun e w' => e = .returned (.int .i64 (crF n last bs keep torn).1) ∧ (∃ u, LogAt w' B p u (crF n last bs keep torn).2.1 (crF n last bs keep torn).2.2.1 (crF n last bs keep torn).2.2.2 most) ∧ Keeps (fun i => i = p ∨ v.ownBlock = some i) w w' := by
  by_cases hb : keep < 0 ∨ torn < 0 ∨ 64 < torn
  · refine (crash_bad w p keep torn hb).mono ?_
    rintro e w' ⟨rfl, rfl⟩
    unfold crF; rw [if_pos hb]
    exact ⟨rfl, ⟨v, h⟩, Keeps.refl _ _⟩
  · unfold crF; rw [if_neg hb]
    unfold crashB
    by_cases ht : 0 < torn ∧ crashN n last keep < n
    · rw [if_pos ht]
      by_cases h64 : torn = 64
      · refine (crash_tear64 w B p v n bs last most keep torn h (by omega) (by omega) (by omega) hk ⟨ht.1, h64, ht.2⟩).mono ?_
        rintro e w' ⟨rfl, u, hl, _, hkp⟩
        exact ⟨rfl, ⟨u, hl⟩, hkp⟩
      · refine (crash_tear w B p v n bs last most keep torn h (by omega) (by omega) (by omega) hk ⟨ht.1, by omega, ht.2⟩).mono ?_
        rintro e w' ⟨rfl, u, hl, _, hkp⟩
        exact ⟨rfl, ⟨u, hl⟩, hkp⟩
    · rw [if_neg ht]
      refine (crash_keep w B p v n bs last most keep torn h (by omega) (by omega) (by omega) hk (by omega)).mono ?_
      rintro e w' ⟨rfl, u, hl, _, hkp⟩
      exact ⟨rfl, ⟨u, hl⟩, hkp⟩
end Go.Proofs.Ytobpohjhhelljaa
