/- Opening the argument of layer 3's law on the order of keys. -/
import Derived.Test.YtmhnccbjnlmjpaaO19
namespace Go.Proofs.Ytmhnccbjnlmjpaa
open Go.RowKit
set_option linter.unusedVariables false
set_option linter.unusedSimpArgs false
theorem cells_key : Try.prog.cellsOf 37 = 2 := by kernel_rfl
theorem cells_arr : Try.prog.cellsOf 39 = 6 := by kernel_rfl
theorem cells_kind1 : Try.prog.cellsOf 22 = 1 := by kernel_rfl
theorem cells_str1 : Try.prog.cellsOf 9 = 1 := by kernel_rfl
theorem open_key37 {H : Type} {enc : TypeId × Value → H} {w : World} {base : Nat} {sp : Nat → Bool} {held : Bool} {fuel : Nat} {cs : List Value} {x : DataW H × List MemPlace}
    (h : DataW.trod enc Try.prog w base sp held fuel 37 cs = some x) : ∃ k : K, cs = [.int .u8 k.k, .string k.n] := by
  obtain ⟨hl, n, xs, hm⟩ := trod_struct Try.underlying37 h
  rw [cells_key] at hl
  match cs, hl with
  | [a, b], _ =>
    obtain ⟨y0, h0⟩ := mapM_at hm 0 (by simp)
    obtain ⟨y1, h1⟩ := mapM_at hm 1 (by simp)
    simp [cells_kind1, cells_str1] at h0 h1
    obtain ⟨i, e0, _, wi⟩ := DataW.trod_int Try.underlying22 h0
    obtain ⟨s, e1, _, _⟩ := DataW.trod_string Try.underlying9 h1
    simp at e0 e1
    exact ⟨⟨i, s⟩, by rw [e0, e1]⟩
theorem open_keys3 {H : Type} {enc : TypeId × Value → H} {w : World} {base : Nat} {sp : Nat → Bool} {held : Bool} {fuel : Nat} {cs : List Value} {x : DataW H × List MemPlace}
    (h : DataW.trod enc Try.prog w base sp held fuel 39 cs = some x) : ∃ a b c : K, cs = [.int .u8 a.k, .string a.n, .int .u8 b.k, .string b.n, .int .u8 c.k, .string c.n] := by
  obtain ⟨xs, m, _, _, hl, hx, hel⟩ := DataW.trod_array Try.underlying39 h
  rw [cells_arr] at hl
  rw [cells_key] at hel
  match cs, hl with
  | [c0, c1, c2, c3, c4, c5], _ =>
    have h0 := hel 0 (by omega)
    have h1 := hel 1 (by omega)
    have h2 := hel 2 (by omega)
    rw [List.getElem?_eq_getElem (by omega)] at h0 h1 h2
    obtain ⟨a, ea⟩ := open_key37 h0
    obtain ⟨b, eb⟩ := open_key37 h1
    obtain ⟨c, ec⟩ := open_key37 h2
    simp at ea eb ec
    refine ⟨a, b, c, ?_⟩
    rw [ea.1, ea.2, eb.1, eb.2, ec.1, ec.2]

end Go.Proofs.Ytmhnccbjnlmjpaa
