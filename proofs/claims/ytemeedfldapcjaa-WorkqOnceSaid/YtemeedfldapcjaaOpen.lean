/- Opening the arguments of layer 8's laws. -/
import Derived.Test.YtemeedfldapcjaaBase
import Derived.Test.YtemeedfldapcjaaLaw
namespace Go.Proofs.Ytemeedfldapcjaa
open Go.RowKit
set_option linter.unusedVariables false
set_option linter.unusedSimpArgs false

theorem trod_struct {H : Type} {enc : TypeId × Value → H} {P : Program} {w : World} {base : Nat} {sp : Nat → Bool} {held : Bool} {fuel : Nat} {t : TypeId} {fs : Array Field} {cs : List Value} {x : DataW H × List MemPlace}
    (hu : P.underlying t = some (.struct fs)) (h : DataW.trod enc P w base sp held fuel t cs = some x) :
    cs.length = P.cellsOf t ∧ ∃ n xs, fs.toList.mapM (fun f => DataW.trod enc P w base sp held n f.type ((cs.drop f.offset).take (P.cellsOf f.type))) = some xs := by
  cases fuel with
  | zero => simp [DataW.trod] at h
  | succ n =>
    unfold DataW.trod at h
    simp only [hu] at h
    split at h
    · rename_i hl
      refine ⟨hl, n, ?_⟩
      cases hm : fs.toList.mapM (fun f => DataW.trod enc P w base sp held n f.type ((cs.drop f.offset).take (P.cellsOf f.type))) with
      | none => rw [hm] at h; simp at h
      | some xs => exact ⟨xs, rfl⟩
    · cases h

theorem cells28 : Try.prog.cellsOf 28 = 2 := by kernel_rfl
theorem cells56 : Try.prog.cellsOf 56 = 4 := by kernel_rfl
theorem cells26 : Try.prog.cellsOf 26 = 1 := by kernel_rfl
theorem cells9 : Try.prog.cellsOf 9 = 1 := by kernel_rfl
theorem cells3 : Try.prog.cellsOf 3 = 1 := by kernel_rfl
theorem cells23 : Try.prog.cellsOf 23 = 1 := by kernel_rfl

theorem mapM_at {α β : Type} {g : α → Option β} : ∀ {l : List α} {xs : List β}, l.mapM g = some xs → ∀ (i : Nat) (hi : i < l.length), ∃ y, g l[i] = some y
  | [], _, _, i, hi => absurd hi (by simp)
  | a :: l, xs, h, i, hi => by
    simp only [List.mapM_cons, Option.bind_eq_bind, Option.bind_eq_some_iff] at h
    obtain ⟨y, hy, ys, hys, _⟩ := h
    cases i with
    | zero => exact ⟨y, hy⟩
    | succ i => exact mapM_at hys i (by simpa using hi)

theorem open_key {H : Type} {enc : TypeId × Value → H} {w : World} {base : Nat} {sp : Nat → Bool} {held : Bool} {fuel : Nat} {cs : List Value} {x : DataW H × List MemPlace}
    (h : DataW.trod enc Try.prog w base sp held fuel 28 cs = some x) : ∃ k : GKey, cs = [.int .u8 k.kind, .string k.name] ∧ (Lit.int .u8 k.kind).wf = true := by
  obtain ⟨hl, n, xs, hm⟩ := trod_struct Try.underlying28 h
  rw [cells28] at hl
  match cs, hl with
  | [a, b], _ =>
    obtain ⟨y0, h0⟩ := mapM_at hm 0 (by simp)
    obtain ⟨y1, h1⟩ := mapM_at hm 1 (by simp)
    simp [cells26, cells9] at h0 h1
    obtain ⟨i, e0, _, wi⟩ := DataW.trod_int Try.underlying26 h0
    obtain ⟨s, e1, _, _⟩ := DataW.trod_string Try.underlying9 h1
    simp at e0 e1
    exact ⟨⟨i, s⟩, by rw [e0, e1], wi⟩

theorem open_deed {H : Type} {enc : TypeId × Value → H} {w : World} {base : Nat} {sp : Nat → Bool} {held : Bool} {fuel : Nat} {cs : List Value} {x : DataW H × List MemPlace}
    (h : DataW.trod enc Try.prog w base sp held fuel 56 cs = some x) : ∃ (kind : Int) (k : GKey) (now : Int), cs = [.int .i64 kind, .int .u8 k.kind, .string k.name, .int .u64 now] ∧ (Lit.int .i64 kind).wf = true ∧ (Lit.int .u8 k.kind).wf = true ∧ (Lit.int .u64 now).wf = true := by
  obtain ⟨hl, n, xs, hm⟩ := trod_struct Try.underlying56 h
  rw [cells56] at hl
  match cs, hl with
  | [a, b, c, d], _ =>
    obtain ⟨y0, h0⟩ := mapM_at hm 0 (by simp)
    obtain ⟨y1, h1⟩ := mapM_at hm 1 (by simp)
    obtain ⟨y2, h2⟩ := mapM_at hm 2 (by simp)
    simp [cells3, cells28, cells23] at h0 h1 h2
    obtain ⟨i, e0, _, wi⟩ := DataW.trod_int Try.underlying3 h0
    obtain ⟨k, e1, wk⟩ := open_key h1
    obtain ⟨m, e2, _, wm⟩ := DataW.trod_int Try.underlying23 h2
    simp at e0 e1 e2
    obtain ⟨e1, e3⟩ := e1
    exact ⟨i, k, m, by rw [e0, e1, e2, e3], wi, wk, wm⟩
end Go.Proofs.Ytemeedfldapcjaa
