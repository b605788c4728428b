/- Arguments, opened: structs, keys. -/
import Derived.Test.YtobpohjhhelljaaLaw
import Derived.Test.YtobpohjhhelljaaS1
import Derived.Deep.Slices
import Derived.ChangeArms
import Derived.RowKit
namespace Go.Proofs.Ytobpohjhhelljaa
open Go.RowKit
set_option linter.unusedVariables false
set_option linter.unusedSimpArgs false

open Go.ChangeShapes Go.WideShapes Go.ChangeAt

theorem trod_struct {H : Type} {enc : TypeId × Value → H} {P : Program} {w : World} {base : Nat} {sp : Nat → Bool} {held : Bool} {fuel : Nat} {t : TypeId} {fs : Array Field} {cs : List Value} {x : DataW H × List MemPlace}
    (hu : P.underlying t = some (.struct fs)) (h : DataW.trod enc P w base sp held fuel t cs = some x) :
    cs.length = P.cellsOf t ∧ ∃ n xs, fs.toList.mapM (fun f => DataW.trod enc P w base sp held n f.type ((cs.drop f.offset).take (P.cellsOf f.type))) = some xs := by
  cases fuel with
  | zero => simp [DataW.trod] at h
  | succ n =>
    unfold DataW.trod at h
    simp only [hu] at h
    split at h
    · rename_i hl
      refine ⟨hl, n, ?_⟩
      cases hm : fs.toList.mapM (fun f => DataW.trod enc P w base sp held n f.type ((cs.drop f.offset).take (P.cellsOf f.type))) with
      | none => rw [hm] at h; simp at h
      | some xs => exact ⟨xs, rfl⟩
    · cases h
theorem mapM_at {α β : Type} {g : α → Option β} : ∀ {l : List α} {xs : List β}, l.mapM g = some xs → ∀ (i : Nat) (hi : i < l.length), ∃ y, g l[i] = some y
  | [], _, _, i, hi => absurd hi (by simp)
  | a :: l, xs, h, i, hi => by
    simp only [List.mapM_cons, Option.bind_eq_bind, Option.bind_eq_some_iff] at h
    obtain ⟨y, hy, ys, hys, _⟩ := h
    cases i with
    | zero => exact ⟨y, hy⟩
    | succ i => exact mapM_at hys i (by simpa using hi)

theorem add_flat {a : Addr} (h : a.spot = none) (i : Nat) : a.add i = ⟨a.block, a.off + i, none⟩ := by
  obtain ⟨b, o, s⟩ := a
  simp only at h
  subst h
  unfold Addr.add
  split
  · rename_i h; subst h; rfl
  · rfl

theorem cellsKey : Try.prog.cellsOf 45 = 2 := by kernel_rfl
theorem cellsKind : Try.prog.cellsOf 26 = 1 := by kernel_rfl
theorem cellsStr : Try.prog.cellsOf 9 = 1 := by kernel_rfl
set_option maxRecDepth 100000 in
theorem open_key {H : Type} {enc : TypeId × Value → H} {w : World} {base : Nat} {sp : Nat → Bool} {held : Bool} {fuel : Nat} {cs : List Value} {x : DataW H × List MemPlace}
    (h : DataW.trod enc Try.prog w base sp held fuel 45 cs = some x) : ∃ k : GKey, cs = [.int .u8 k.kind, .string k.name] ∧ (Lit.int .u8 k.kind).wf = true := by
  obtain ⟨hl, n, xs, hm⟩ := trod_struct Try.underlying45 h
  rw [cellsKey] at hl
  match cs, hl with
  | [a, b], _ =>
    obtain ⟨y0, h0⟩ := mapM_at hm 0 (by simp)
    obtain ⟨y1, h1⟩ := mapM_at hm 1 (by simp)
    simp [cellsKind, cellsStr] at h0 h1
    obtain ⟨i, e0, _, wi⟩ := DataW.trod_int Try.underlying26 h0
    obtain ⟨s, e1, _, _⟩ := DataW.trod_string Try.underlying9 h1
    simp at e0 e1
    exact ⟨⟨i, s⟩, by rw [e0, e1], wi⟩



end Go.Proofs.Ytobpohjhhelljaa
