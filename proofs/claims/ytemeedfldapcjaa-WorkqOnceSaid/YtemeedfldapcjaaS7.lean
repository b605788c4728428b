/- A part of the walks: contracts of functions. -/
import Derived.Test.YtemeedfldapcjaaS6
import Derived.Test.YtemeedfldapcjaaOpen
import Derived.Deep.Slices
import Derived.ChangeOld
import Derived.DataReads
namespace Go.Proofs.Ytemeedfldapcjaa
open Go.RowKit
set_option linter.unusedVariables false
set_option linter.unusedSimpArgs false
theorem assoc_of_mem {α : Type} {l : List (GKey × α)} {p : GKey × α} (hn : (l.map (·.1)).Nodup) (h : p ∈ l) : assoc l p.1 = some p.2 := by
  induction l with
  | nil => simp at h
  | cons a l ih =>
    simp only [List.map_cons, List.nodup_cons] at hn
    rw [assoc_cons]
    rcases List.mem_cons.1 h with rfl | h
    · simp
    · rw [if_neg (fun e => hn.1 (List.mem_map.2 ⟨p, h, e⟩)), ih hn.2 h]
theorem del_len {α : Type} {l : List (GKey × α)} {p : GKey × α} (h : p ∈ l) : (assocDel l p.1).length = l.length - 1 := by
  induction l with
  | nil => simp at h
  | cons a l ih =>
    rw [assocDel_cons]
    by_cases hk : p.1 = a.1
    · rw [if_pos hk]; simp
    · rw [if_neg hk]
      rcases List.mem_cons.1 h with rfl | h
      · exact absurd rfl hk
      · have := List.length_pos_of_mem h
        simp [ih h]; omega
theorem since_del {l : List (GKey × (Int × Int))} {k : GKey} (h : Since l) : Since (assocDel l k) := h.sublist del_sub

/-- a slice of deeds that came in -/
theorem open_deeds {H : Type} {enc : TypeId × Value → H} {w : World} {held : Bool} {fuel : Nat} {cs : List Value} {x : DataW H × List MemPlace}
    (h : DataW.trod enc Try.prog w 0 (fun _ => true) held fuel 38 cs = some x) : ∃ v ds, cs = [v] ∧ DeedsAt w v ds := by
  rcases Go.Deep.open_slice Try.underlying38 h with ⟨rfl, _⟩ | ⟨a, len, cap, m, n, D, Pl, rfl, _, hlc, hcm, hm, _, hel⟩
  · exact ⟨_, [], rfl, ⟨none, 0, rfl, by unfold maxLen; omega, Nat.le_refl _, fun h => absurd h (by simp)⟩, by simp⟩
  · simp only [if_true] at hm
    subst hm
    have hd : ∀ i : Fin len, ∃ d : Deed, w.cells? 0 (a.add (i * 4)) 4 = some (deedCells d) ∧ 0 ≤ d.2.2 ∧ d.2.2 ≤ topU := by
      intro i
      obtain ⟨cs', hc, ht⟩ := hel i (by omega)
      rw [cells56] at hc
      obtain ⟨kind, k, now, rfl, _, _, wn⟩ := open_deed ht
      refine ⟨(kind, k, now), hc, ?_⟩
      simp [Lit.wf, IntKind.min, IntKind.max, IntKind.signed, IntKind.bits] at wn
      unfold topU
      simp only; omega
    have hch : ∃ f : Fin len → Deed, ∀ i : Fin len, w.cells? 0 (a.add (i * 4)) 4 = some (deedCells (f i)) ∧ 0 ≤ (f i).2.2 ∧ (f i).2.2 ≤ topU := ⟨fun i => Classical.choose (hd i), fun i => Classical.choose_spec (hd i)⟩
    obtain ⟨f, hf⟩ := hch
    refine ⟨_, List.ofFn f, rfl, ⟨some a, m, by simp, hcm, by simpa using hlc, fun h0 => ⟨a, rfl, ?_, fun j hj o ho => ?_⟩⟩, fun d hd => ?_⟩
    · have h0' : 0 < len := by simpa using h0
      have := World.cells?_block (hf ⟨0, h0'⟩).1 (by omega)
      simpa [add_block] using this
    · have hj' : j < len := by simpa using hj
      have := (World.cells?_some (hf ⟨j, hj'⟩).1).2.2 o ho
      simpa using this
    · obtain ⟨i, rfl⟩ := List.mem_ofFn.1 hd
      exact (hf i).2
end Go.Proofs.Ytemeedfldapcjaa
