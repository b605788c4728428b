/- Layer 5 (blocks): the arguments of the laws, opened. -/
import Derived.Test.YtmkfiecdgghceaaLaw
import Derived.Test.YtmkfiecdgghceaaC11
import Derived.Deep.Slices
namespace Go.Proofs.Ytmkfiecdgghceaa
open Go.RowKit
set_option linter.unusedVariables false
set_option linter.unusedSimpArgs false
open Go.ChangeShapes Go.WideShapes Go.ChangeAt

theorem trod_struct {H : Type} {enc : TypeId × Value → H} {P : Program} {w : World} {base : Nat} {sp : Nat → Bool} {held : Bool} {fuel : Nat} {t : TypeId} {fs : Array Field} {cs : List Value} {x : DataW H × List MemPlace}
    (hu : P.underlying t = some (.struct fs)) (h : DataW.trod enc P w base sp held fuel t cs = some x) :
    cs.length = P.cellsOf t ∧ ∃ n xs, fs.toList.mapM (fun f => DataW.trod enc P w base sp held n f.type ((cs.drop f.offset).take (P.cellsOf f.type))) = some xs := by
  cases fuel with
  | zero => simp [DataW.trod] at h
  | succ n =>
    unfold DataW.trod at h
    simp only [hu] at h
    split at h
    · rename_i hl
      refine ⟨hl, n, ?_⟩
      cases hm : fs.toList.mapM (fun f => DataW.trod enc P w base sp held n f.type ((cs.drop f.offset).take (P.cellsOf f.type))) with
      | none => rw [hm] at h; simp at h
      | some xs => exact ⟨xs, rfl⟩
    · cases h
theorem mapM_at {α β : Type} {g : α → Option β} : ∀ {l : List α} {xs : List β}, l.mapM g = some xs → ∀ (i : Nat) (hi : i < l.length), ∃ y, g l[i] = some y
  | [], _, _, i, hi => absurd hi (by simp)
  | a :: l, xs, h, i, hi => by
    simp only [List.mapM_cons, Option.bind_eq_bind, Option.bind_eq_some_iff] at h
    obtain ⟨y, hy, ys, hys, _⟩ := h
    cases i with
    | zero => exact ⟨y, hy⟩
    | succ i => exact mapM_at hys i (by simpa using hi)

theorem cellsD : Try.prog.cellsOf 30 = 4 := by kernel_rfl
theorem cellsb : Try.prog.cellsOf 5 = 1 := by kernel_rfl
theorem cellsB : Try.prog.cellsOf 22 = 1 := by kernel_rfl
theorem cellsI : Try.prog.cellsOf 3 = 1 := by kernel_rfl

theorem add_flat {a : Addr} (h : a.spot = none) (i : Nat) : a.add i = ⟨a.block, a.off + i, none⟩ := by
  obtain ⟨b, o, s⟩ := a
  simp only at h
  subst h
  unfold Addr.add
  split
  · rename_i h; subst h; rfl
  · rfl

theorem open_bytes {H : Type} {enc : TypeId × Value → H} {w : World} {held : Bool} {fuel : Nat} {cs : List Value} {x : DataW H × List MemPlace}
    (h : DataW.trod enc Try.prog w 0 (fun _ => true) held fuel 22 cs = some x) : ∃ v l, cs = [v] ∧ ArgB w w.heap.size v l := by
  rcases open_ints und_B und_b cellsb h with ⟨rfl, _⟩ | ⟨a, len, cap, zs, rfl, _, hlc, hcm, hz, _, hcell, hwf⟩
  · exact ⟨_, [], rfl, none, 0, rfl, Nat.le_refl _, by unfold maxLen; omega, fun h => absurd h (by simp)⟩
  · simp only [if_true] at hz
    have hbd : ∀ z ∈ zs, 0 ≤ z ∧ z ≤ 255 := fun z hm => by
      have := hwf z hm
      simp [Lit.wf, IntKind.min, IntKind.max, IntKind.signed, IntKind.bits] at this
      omega
    refine ⟨_, (zs.take len).map fun z => z.toNat.toUInt8, rfl, some a, cap, ?_, ?_, hcm, fun h0 => ?_⟩
    · rw [List.length_map, List.length_take, Nat.min_eq_left (by omega)]
    · rw [List.length_map, List.length_take]; omega
    · rw [List.length_map, List.length_take] at h0
      have hs : a.spot = none := by
        have := hcell 0 (by omega)
        simpa [Addr.add] using World.cell?_spot this
      have hb := World.block_lt_of_cell? w _ (hcell 0 (by omega))
      rw [add_flat hs] at hb
      refine ⟨a.block, a.off, by obtain ⟨b, o, s⟩ := a; simp only at hs; subst hs; rfl, hb, fun k hk => ?_⟩
      rw [List.length_map, List.length_take] at hk
      have h2 := hcell k (by omega)
      rw [add_flat hs] at h2
      rw [h2]
      have hget : zs.getD k 0 = zs[k]'(by omega) := by simp [List.getD, show k < zs.length by omega]
      have h3 := hbd (zs[k]'(by omega)) (List.getElem_mem _)
      rw [hget]
      simp only [List.getElem_map, List.getElem_take]
      have h4 : ((zs[k]'(by omega)).toNat.toUInt8).toNat = (zs[k]'(by omega)).toNat := by
        simp
        omega
      rw [h4]
      congr 2
      omega

theorem open_deed {H : Type} {enc : TypeId × Value → H} {w : World} {held : Bool} {fuel : Nat} {cs : List Value} {x : DataW H × List MemPlace}
    (h : DataW.trod enc Try.prog w 0 (fun _ => true) held fuel 30 cs = some x) : ∃ (kind keep torn : Int) (y : Value) (l : Bs), cs = [.int .i64 kind, .int .i64 keep, .int .i64 torn, y] ∧ (-9223372036854775808 ≤ keep ∧ keep ≤ 9223372036854775807) ∧ (-9223372036854775808 ≤ torn ∧ torn ≤ 9223372036854775807) ∧ ArgB w w.heap.size y l := by
  obtain ⟨hl, n, xs, hm⟩ := trod_struct Try.underlying30 h
  rw [cellsD] at hl
  match cs, hl with
  | [a, b, c, d], _ =>
    obtain ⟨y0, h0⟩ := mapM_at hm 0 (by simp)
    obtain ⟨y1, h1⟩ := mapM_at hm 1 (by simp)
    obtain ⟨y2, h2⟩ := mapM_at hm 2 (by simp)
    obtain ⟨y3, h3⟩ := mapM_at hm 3 (by simp)
    simp [cellsI, cellsB] at h0 h1 h2 h3
    obtain ⟨i, e0, _, w0⟩ := DataW.trod_int Try.underlying3 h0
    obtain ⟨j, e1, _, w1⟩ := DataW.trod_int Try.underlying3 h1
    obtain ⟨k, e2, _, w2⟩ := DataW.trod_int Try.underlying3 h2
    obtain ⟨y, l, e3, hy⟩ := open_bytes h3
    simp at e0 e1 e2 e3
    simp [Lit.wf, IntKind.min, IntKind.max, IntKind.signed, IntKind.bits] at w1 w2
    exact ⟨i, j, k, y, l, by rw [e0, e1, e2, e3], by omega, by omega, hy⟩

theorem open_deeds {H : Type} {enc : TypeId × Value → H} {w : World} {held : Bool} {fuel : Nat} {cs : List Value} {x : DataW H × List MemPlace}
    (h : DataW.trod enc Try.prog w 0 (fun _ => true) held fuel 40 cs = some x) : ∃ v n, cs = [v] ∧ ArgD w w.heap.size v n := by
  rcases Go.Deep.open_slice Try.underlying40 h with ⟨rfl, _⟩ | ⟨a, len, cap, m, n, D, Pl, rfl, _, hlc, hcm, hm, _, hel⟩
  · exact ⟨_, 0, rfl, none, 0, rfl, Nat.le_refl _, by unfold maxLen; omega, fun h => absurd h (by simp)⟩
  · simp only [if_true] at hm
    subst hm
    refine ⟨_, len, rfl, some a, m, rfl, hlc, hcm, fun h0 => ⟨a, rfl, ?_, fun j hj => ?_⟩⟩
    · obtain ⟨cs', hc, _⟩ := hel 0 (by omega)
      have := World.cells?_block hc (by rw [cellsD]; omega)
      simpa [add_block] using this
    · obtain ⟨cs', hc, ht⟩ := hel j (by omega)
      rw [cellsD] at hc
      obtain ⟨kind, keep, torn, y, l, rfl, hk, _, hy⟩ := open_deed ht
      refine ⟨kind, keep, torn, y, l, fun o ho => ?_, hk.2, hy⟩
      have := (World.cells?_some hc).2.2 o ho
      simpa using this

/-- rows of bytes of an argument -/
def ArgR (w : World) (B : Nat) (x : Value) (n : Nat) : Prop := ∃ ao c, x = .slice ao n c ∧ n ≤ c ∧ c ≤ maxLen ∧ (0 < n → ∃ a : Addr, ao = some a ∧ a.block < B ∧ ∀ j, j < n → ∃ (y : Value) (l : Bs), w.cell? (a.add j) = some y ∧ ArgB w B y l)
theorem open_brows {H : Type} {enc : TypeId × Value → H} {w : World} {held : Bool} {fuel : Nat} {cs : List Value} {x : DataW H × List MemPlace}
    (h : DataW.trod enc Try.prog w 0 (fun _ => true) held fuel 28 cs = some x) : ∃ v n, cs = [v] ∧ ArgR w w.heap.size v n := by
  rcases Go.Deep.open_slice1 Try.underlying28 cellsB h with ⟨rfl, _⟩ | ⟨a, len, cap, m, n, V, D, Pl, rfl, _, hlc, hcm, hm, _, hel⟩
  · exact ⟨_, 0, rfl, none, 0, rfl, Nat.le_refl _, by unfold maxLen; omega, fun h => absurd h (by simp)⟩
  · simp only [if_true] at hm
    subst hm
    refine ⟨_, len, rfl, some a, m, rfl, hlc, hcm, fun h0 => ⟨a, rfl, ?_, fun j hj => ?_⟩⟩
    · have := World.block_lt_of_cell? w _ (hel 0 (by omega)).1
      simpa [add_block] using this
    · obtain ⟨hc, ht⟩ := hel j (by omega)
      obtain ⟨y, l, e, hy⟩ := open_bytes ht
      simp at e
      exact ⟨y, l, by rw [hc, e], hy⟩

end Go.Proofs.Ytmkfiecdgghceaa
