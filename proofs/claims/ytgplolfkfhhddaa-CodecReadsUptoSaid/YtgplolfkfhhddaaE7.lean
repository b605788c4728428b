/- wharfingerlaw04.CodecReads answers true at every input whose reading is of bulk at most 1048576, and its arguments read as before. -/
import Derived.Test.YtgplolfkfhhddaaD7
import Derived.Test.YtgplolfkfhhddaaOpen1
import Derived.RowKit
namespace Go.Proofs.Ytgplolfkfhhddaa
open Go.RowKit
set_option linter.unusedVariables false
set_option linter.unusedSimpArgs false
namespace codecReads
open Go.ChangeShapes Go.WideShapes Go.ChangeAt Go.RowKit

theorem bulk_lits {H : Type} (k : IntKind) : ∀ zs : List Int, Rows.uptoBulkAll (H := H) (lits k zs) = zs.length
  | [] => rfl
  | z :: zs => by
    have h := bulk_lits (H := H) k zs
    unfold lits at h
    simp only [lits, List.map_cons, Rows.uptoBulkAll, Rows.uptoBulk, h, List.length_cons]
    omega
theorem open_bulk {H : Type} {enc : TypeId × Value → H} {w : World} {held : Bool} {fuel : Nat} {cs : List Value} {x : DataW H × List MemPlace} {a : Option Addr} {n c : Nat}
    (h : DataW.trod enc Try.prog w 0 (fun _ => true) held fuel 28 cs = some x) (e : cs = [.slice a n c]) : n ≤ Rows.uptoBulk x.1 := by
  rcases open_ints und_B und_b cellsb h with ⟨h1, rfl⟩ | ⟨a', len, cap, zs, h1, _, hlc, _, hz, rfl, _, _⟩
  · rw [e] at h1
    simp at h1
    omega
  · rw [e] at h1
    simp only [List.cons.injEq, Value.slice.injEq, and_true] at h1
    simp only [if_true] at hz
    simp only [Rows.uptoBulk, bulk_lits, List.length_take]
    omega
theorem bytes_bulk {H : Type} {enc : TypeId × Value → H} {w : World} {held : Bool} {fuel : Nat} {cs : List Value} {x : DataW H × List MemPlace} {v : Value} {l : Bs} {B : Nat}
    (h : DataW.trod enc Try.prog w 0 (fun _ => true) held fuel 28 cs = some x) (e : cs = [v]) (hs : SrcB w B v l) : l.length ≤ Rows.uptoBulk x.1 := by
  obtain ⟨a, c, rfl⟩ := hs.rd
  exact open_bulk h e

theorem own : ownKnob Try.prog.godebug = none := by kernel_rfl
theorem laidOut : laidOutB Try.prog = true := by kernel_rfl
set_option maxRecDepth 100000 in
theorem lifted (os : Os) (started : os.Started) (H : Type) (enc : TypeId × Value → H) (F : Stop.Interp) :
    ReturnsInHanded {} Try.checked os 7 .any ((Rows.OpenSpec.upto Rows.codecReadsSpec).pre6 enc Try.prog Try.f7 Rows.codecReadsUptoRow.domain false) (((Rows.OpenSpec.upto Rows.codecReadsSpec).at F).post enc Try.prog Try.f7 false true false false) := by
  refine returnsInHanded_of_cond (C := Try.checked) (s := (Rows.OpenSpec.upto Rows.codecReadsSpec)) (k := Rows.uptoSmall) rfl own started (by kernel_rfl) Try.func7
    (OpenSpec.witness (enc := enc) (C := Try.checked) (s := (Rows.OpenSpec.upto Rows.codecReadsSpec)) (k := Rows.uptoSmall) rfl false ⟨#[], #[.slice none 0 0], []⟩ 8 (by kernel_rfl) (by kernel_rfl) (by kernel_rfl)
      (x := ([.nil], [], [])) (by kernel_rfl) rfl (by kernel_rfl)) ?_
  intro W base args ds gs before hval0 hW _ hk _
  have hval : ∀ (j : Nat) t v, Try.f7.params[j]? = some t → args[j]? = some v → Value.okWide Try.prog W .any base t v := hval0
  have hW' := hW
  obtain ⟨p, q, hA0, hV, rfl, hfz, hnd⟩ := hW
  have hA : DataW.TrodAll enc Try.prog W 0 (fun _ => true) true Try.f7.params.toList args.toList ds p := hA0
  rw [Try.params7] at hA hval
  obtain ⟨v0, vs0, d0, ds0, p0, q0, hargs, rfl, rfl, h0, r0⟩ := trodAll_cons hA
  obtain ⟨rfl, rfl, rfl⟩ := trodAll_nil r0
  obtain rfl : args = #[v0] := by cases args; simp_all
  obtain ⟨rfl, rfl⟩ := trodVars_none hV
  obtain ⟨fuel0, hf0⟩ := h0
  obtain ⟨vv0, l0, e0, hd0⟩ := open_bytes hf0
  obtain ⟨sa0, sl0, sc0, rfl⟩ := okWide_slice Try.underlying28 (hval 0 28 v0 rfl rfl)
  obtain rfl : vv0 = .slice sa0 sl0 sc0 := by simpa [Value.cells] using e0.symm
  have hk1 := of_decide_eq_true hk
  simp only [List.append_nil, Rows.uptoBulkAll] at hk1
  have hb0 := bytes_bulk hf0 e0 hd0
  dsimp only at hb0
  clear hA0
  refine (reads_walk _ _ W hd0 (by omega)).mono fun e W' ⟨he, hb⟩ => ?_
  subst he
  exact ⟨_, rfl, law_post (s := Rows.codecReadsSpec) rfl hW' laidOut (by rw [Try.params7]; simp only [List.mem_cons, List.not_mem_nil, or_false]; rintro t rfl <;> exact ⟨by kernel_rfl, of_decide_eq_true (by kernel_rfl)⟩) (by kernel_rfl) Try.underlying4 rfl hb⟩

theorem proved : Rows.CodecReadsUptoSaid :=
  OpenClaim.holds_of_cond 7 Try.f7 rfl rfl rfl rfl rfl rfl rfl ⟨rfl, rfl, rfl, rfl, rfl⟩ rfl rfl rfl rfl rfl (by kernel_rfl) Try.func7 (by kernel_rfl)
    (of_decide_eq_true (by kernel_rfl)) (by unfold Func.isWrapper; first | (rw [if_pos (by decide +kernel)]; kernel_rfl) | (rw [if_neg (by decide +kernel)]; exact ⟨rfl, rfl⟩))
    (fun os started H enc _ F => lifted os started H enc F)
end codecReads
theorem codecReads_holds : Rows.CodecReadsUptoSaid := codecReads.proved
#print axioms codecReads_holds


end Go.Proofs.Ytgplolfkfhhddaa
