/- Layer 4 (codec): what the laws' walks share: an argument's box, and variables laid behind it. -/
import Derived.Test.YtgplolfkfhhddaaK2
import Derived.Test.YtgplolfkfhhddaaLaw
import Derived.Deep.Slices
namespace Go.Proofs.Ytgplolfkfhhddaa
open Go.RowKit
set_option linter.unusedVariables false
set_option linter.unusedSimpArgs false

/-- an argument's box, kept; nothing below it has changed -/
structure BK (w W : World) (bx : Go.Obj) : Prop where
  box : W.heap[w.heap.size]? = some bx
  below : Below w.heap.size w W
theorem BK.start (w : World) (bx : Go.Obj) : BK w (w.alloc bx) bx := ⟨heap_alloc_eq, (Below.refl _ _).alloc (Nat.le_refl _) _⟩
theorem BK.next {w W W' : World} {bx : Go.Obj} (h : BK w W bx) (hb : Below W.heap.size W W') : BK w W' bx := ⟨(hb.block _ (heap_lt h.box)).trans h.box, h.below.trans (hb.mono h.below.size)⟩
theorem below_new (W : World) (x z : Go.Obj) : Below W.heap.size W (Wset (W.alloc x) W.heap.size z) := belowWs ((Below.refl _ _).alloc (Nat.le_refl _) x) (Nat.le_refl _)
theorem BK.src {w W : World} {bx : Go.Obj} {v : Value} {l : Bs} (h : BK w W bx) (hs : SrcB w w.heap.size v l) : SrcB W W.heap.size v l := hs.start h.below h.below.size
theorem SrcB.text {w : World} {B : Nat} {v : Value} {l : Bs} (h : SrcB w B v l) : (convert 28 9 v).run Try.prog w = .ok (.string ⟨l.toArray⟩) w := by
  rcases h with ⟨h, _⟩ | ⟨rfl, a, c, rfl, _⟩
  · exact run_text h
  · exact run_text0 w a c
theorem OwnB.srcAt {w : World} {B : Nat} {v : Value} {l : Bs} (h : OwnB w B v l) : SrcB w w.heap.size v l := h.src (Nat.le_refl _)
theorem new_box (W : World) (x : Go.Obj) (cs : Array Value) (t : TypeId) : (Wset (W.alloc x) W.heap.size (.cells cs t (0, 0))).heap[W.heap.size]? = some (.cells cs t (0, 0)) := Wset_same (by simp)
theorem right_fits {o : Obj} (h : rightB o = true) : o.Fits := by
  obtain ⟨hn, hx⟩ := right_texts h
  exact ⟨by unfold maxLen; omega, fun s hs => by have := hx s hs; unfold maxLen; omega⟩

open Go.ChangeShapes Go.WideShapes Go.ChangeAt
theorem cellsb : Try.prog.cellsOf 5 = 1 := by kernel_rfl
theorem add_flat {a : Addr} (h : a.spot = none) (i : Nat) : a.add i = ⟨a.block, a.off + i, none⟩ := by
  obtain ⟨b, o, s⟩ := a
  simp only at h
  subst h
  unfold Addr.add
  split
  · rename_i h; subst h; rfl
  · rfl
theorem open_bytes {H : Type} {enc : TypeId × Value → H} {w : World} {held : Bool} {fuel : Nat} {cs : List Value} {x : DataW H × List MemPlace}
    (h : DataW.trod enc Try.prog w 0 (fun _ => true) held fuel 28 cs = some x) : ∃ v l, cs = [v] ∧ SrcB w w.heap.size v l := by
  rcases open_ints und_B und_b cellsb h with ⟨rfl, _⟩ | ⟨a, len, cap, zs, rfl, _, hlc, hcm, hz, _, hcell, hwf⟩
  · exact ⟨_, [], rfl, .inr ⟨rfl, none, 0, rfl, Nat.zero_le _⟩⟩
  · simp only [if_true] at hz
    have hbd : ∀ z ∈ zs, 0 ≤ z ∧ z ≤ 255 := fun z hm => by
      have := hwf z hm
      simp [Lit.wf, IntKind.min, IntKind.max, IntKind.signed, IntKind.bits] at this
      omega
    by_cases h0 : 0 < len
    · have hs : a.spot = none := by
        have := hcell 0 (by omega)
        simpa [Addr.add] using World.cell?_spot this
      have hb := World.block_lt_of_cell? w _ (hcell 0 (by omega))
      rw [add_flat hs] at hb
      have hll : ((zs.take len).map fun z => z.toNat.toUInt8).length = len := by rw [List.length_map, List.length_take]; omega
      obtain ⟨b, o, s⟩ := a
      simp only at hs
      subst hs
      refine ⟨_, (zs.take len).map fun z => z.toNat.toUInt8, rfl, .inl ⟨.inr ⟨b, o, cap, by rw [hll], by rw [hll]; exact hlc, hcm, fun k hk => ?_⟩, fun b' e => by simp [blk] at e; subst e; exact hb⟩⟩
      rw [hll] at hk
      have h2 := hcell k (by omega)
      rw [add_flat rfl] at h2
      rw [h2]
      have hget : zs.getD k 0 = zs[k]'(by omega) := by simp [List.getD, show k < zs.length by omega]
      have h3 := hbd (zs[k]'(by omega)) (List.getElem_mem _)
      rw [hget]
      simp only [List.getElem_map, List.getElem_take]
      have h4 : ((zs[k]'(by omega)).toNat.toUInt8).toNat = (zs[k]'(by omega)).toNat := by
        simp
        omega
      rw [h4]
      congr 2
      omega
    · obtain rfl : len = 0 := by omega
      exact ⟨_, [], rfl, .inr ⟨rfl, _, _, rfl, hcm⟩⟩

end Go.Proofs.Ytgplolfkfhhddaa
