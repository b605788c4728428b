/- Arguments, opened: strings; an array of two bytes. -/
import Derived.Test.YtobpohjhhelljaaOpen
import Derived.OpenShut
namespace Go.Proofs.Ytobpohjhhelljaa
open Go.RowKit
set_option linter.unusedVariables false
set_option linter.unusedSimpArgs false

open Go.ChangeShapes Go.WideShapes Go.ChangeAt
/-- strings of an argument -/
def ArgS (w : World) (B : Nat) (x : Value) (n : Nat) : Prop := ∃ ao c, x = .slice ao n c ∧ n ≤ c ∧ c ≤ maxLen ∧ (0 < n → ∃ b o, ao = some ⟨b, o, none⟩ ∧ b < B ∧ ∀ j, j < n → ∃ s : ByteArray, w.cell? ⟨b, o + j, none⟩ = some (.string s) ∧ s.size ≤ maxLen)
theorem open_strs {H : Type} {enc : TypeId × Value → H} {w : World} {held : Bool} {fuel : Nat} {cs : List Value} {x : DataW H × List MemPlace}
    (h : DataW.trod enc Try.prog w 0 (fun _ => true) held fuel 22 cs = some x) : ∃ v n, cs = [v] ∧ ArgS w w.heap.size v n := by
  rcases Go.Deep.open_slice1 Try.underlying22 cellsStr h with ⟨rfl, _⟩ | ⟨a, len, cap, m, n, V, D, Pl, rfl, _, hlc, hcm, hm, _, hel⟩
  · exact ⟨_, 0, rfl, none, 0, rfl, Nat.le_refl _, by unfold maxLen; omega, fun h => absurd h (by simp)⟩
  · simp only [if_true] at hm
    subst hm
    refine ⟨_, len, rfl, some a, m, rfl, hlc, hcm, fun h0 => ?_⟩
    have hs : a.spot = none := by
      have := (hel 0 (by omega)).1
      simpa [Addr.add] using World.cell?_spot this
    have hb := World.block_lt_of_cell? w _ (hel 0 (by omega)).1
    rw [add_flat hs] at hb
    refine ⟨a.block, a.off, by obtain ⟨b, o, s⟩ := a; simp only at hs; subst hs; rfl, hb, fun j hj => ?_⟩
    obtain ⟨hc, ht⟩ := hel j (by omega)
    obtain ⟨s, e1, _, h2⟩ := DataW.trod_string Try.underlying9 ht
    simp at e1
    rw [add_flat hs] at hc
    exact ⟨s, by rw [hc, e1], h2⟩
theorem ArgS.below {w w' : World} {B : Nat} {x : Value} {n : Nat} (h : ArgS w B x n) (hb : Below B w w') : ArgS w' B x n := by
  obtain ⟨ao, c, h1, h2, h3, h4⟩ := h
  refine ⟨ao, c, h1, h2, h3, fun h0 => ?_⟩
  obtain ⟨b, o, h5, h6, h7⟩ := h4 h0
  refine ⟨b, o, h5, h6, fun j hj => ?_⟩
  obtain ⟨s, h8, h9⟩ := h7 j hj
  exact ⟨s, (hb.cell (p := ⟨b, o + j, none⟩) h6).trans h8, h9⟩
theorem cellsA2 : Try.prog.cellsOf 5 = 1 := by kernel_rfl
set_option maxRecDepth 100000 in
theorem open_a2 {H : Type} {enc : TypeId × Value → H} {w : World} {base : Nat} {sp : Nat → Bool} {held : Bool} {fuel : Nat} {cs : List Value} {x : DataW H × List MemPlace}
    (h : DataW.trod enc Try.prog w base sp held fuel 23 cs = some x) : ∃ a b : Int, cs = [.int .u8 a, .int .u8 b] ∧ (0 ≤ a ∧ a ≤ 255) ∧ (0 ≤ b ∧ b ≤ 255) := by
  obtain ⟨xs, m, _, ex, hl, hx2, hel⟩ := DataW.trod_array Try.underlying23 h
  have c2 : Try.prog.cellsOf 23 = 2 := by kernel_rfl
  rw [c2] at hl
  match cs, hl with
  | [a, b], _ =>
    have h0 := hel 0 (by decide)
    have h1 := hel 1 (by decide)
    rw [cellsA2] at h0 h1
    simp at h0 h1
    have l0 : 0 < xs.length := by omega
    have l1 : 1 < xs.length := by omega
    rw [List.getElem?_eq_getElem l0] at h0
    rw [List.getElem?_eq_getElem l1] at h1
    obtain ⟨i, e0, _, w0⟩ := DataW.trod_int Try.underlying5 h0
    obtain ⟨j, e1, _, w1⟩ := DataW.trod_int Try.underlying5 h1
    simp at e0 e1
    simp [Lit.wf, IntKind.min, IntKind.max, IntKind.signed, IntKind.bits] at w0 w1
    exact ⟨i, j, by rw [e0, e1], by omega, by omega⟩

end Go.Proofs.Ytobpohjhhelljaa
