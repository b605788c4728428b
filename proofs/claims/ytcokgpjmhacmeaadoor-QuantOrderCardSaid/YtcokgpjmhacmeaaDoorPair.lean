/- Pairs of numbers as arguments, opened. -/
import Derived.Test.YtcokgpjmhacmeaaDoorLaw
namespace Go.Proofs.YtcokgpjmhacmeaaDoor
open Go.RowKit
set_option linter.unusedVariables false
set_option linter.unusedSimpArgs false
open Go.ChangeShapes Go.WideShapes Go.ChangeAt

theorem two_of {α : Type} {l : List α} (h : l.length = 2) : ∃ x y, l = [x, y] := by
  cases l with
  | nil => simp at h
  | cons x l =>
    cases l with
    | nil => simp at h
    | cons y l =>
      cases l with
      | nil => exact ⟨x, y, rfl⟩
      | cons z l => simp at h
set_option maxRecDepth 100000 in
theorem open_pair {H : Type} {enc : TypeId × Value → H} {W : World} {base : Nat} {v : Value} {d : DataW H} {p : List MemPlace} (hv : Value.okWide Tryd.prog W .any base 37 v) (h : DataW.Trod enc Tryd.prog W 0 (fun _ => true) true 37 v d p) : ∃ a b : Int, v = .agg #[.int .i64 a, .int .i64 b] := by
  obtain ⟨fuel, hf⟩ := h
  simp only [Value.okWide, Tryd.underlying37] at hv
  obtain ⟨cs, rfl, hsz, _⟩ := hv
  have c2 : Tryd.prog.cellsOf 2 = 1 := by kernel_rfl
  have c37 : Tryd.prog.cellsOf 37 = 2 := by kernel_rfl
  obtain ⟨xs, m, rfl, _, hlen, hn, hel⟩ := DataW.trod_array Tryd.underlying37 hf
  obtain ⟨l⟩ := cs
  have hsz := hsz.trans c37
  obtain ⟨x, y, rfl⟩ := two_of (show l.length = 2 by simpa using hsz)
  obtain ⟨x0, x1, rfl⟩ := two_of hn
  have h0 := hel 0 (by omega)
  have h1 := hel 1 (by omega)
  rw [c2] at h0 h1
  simp [Value.cells] at h0 h1
  obtain ⟨a, e0, _, _⟩ := DataW.trod_int Tryd.underlying2 h0
  obtain ⟨b, e1, _, _⟩ := DataW.trod_int Tryd.underlying2 h1
  simp at e0 e1
  exact ⟨a, b, by rw [e0, e1]⟩

end Go.Proofs.YtcokgpjmhacmeaaDoor
