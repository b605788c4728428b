/- Layer 3 (object): the document's bare: an object with what its kind names, and nothing else. -/
import Derived.Test.YtgplolfkfhhddaaO22
import Derived.Test.YtgplolfkfhhddaaO3
import Derived.Test.YtgplolfkfhhddaaLaw
namespace Go.Proofs.Ytgplolfkfhhddaa
open Go.RowKit
set_option linter.unusedVariables false
set_option linter.unusedSimpArgs false
open Go.ChangeShapes Go.WideShapes Go.ChangeAt

def bareR (o : Obj) : Obj :=
  let b : Obj := { bareO o.kind with name := o.name, version := o.version, born := o.born, deleting := o.deleting, hold := o.hold }
  if o.kind = 1 then { b with zone := o.zone, wait := o.wait, keep := o.keep }
  else if o.kind = 2 then { b with zone := o.zone }
  else if o.kind = 3 then { b with cls := o.cls, size := o.size, got := o.got, mode := o.mode, zone := o.zone, node := o.node, volume := o.volume, source := o.source, phase := o.phase, num := o.num }
  else if o.kind = 4 then { b with cls := o.cls, size := o.size, got := o.got, mode := o.mode, keep := o.keep, zone := o.zone, claim := o.claim, phase := o.phase, num := o.num }
  else if o.kind = 5 then { b with volume := o.volume, node := o.node, phase := o.phase, num := o.num }
  else if o.kind = 6 then { b with claim := o.claim, node := o.node }
  else if o.kind = 7 then { b with source := o.source, volume := o.volume, got := o.got, phase := o.phase, num := o.num, tag := o.tag }
  else b
theorem bareR_1 (a1 : ByteArray) (a2 a3 : Int) (a4 a5 : Bool) (a6 : ByteArray) (a7 a8 a9 : Int) (a10 a11 : Bool) (a12 a13 a14 a15 a16 : ByteArray) (a17 a18 a19 : Int) : bareR ⟨1, a1, a2, a3, a4, a5, a6, a7, a8, a9, a10, a11, a12, a13, a14, a15, a16, a17, a18, a19⟩ = ⟨1, a1, a2, a3, a4, a5, noText, 0, 0, 0, a10, a11, a12, noText, noText, noText, noText, 0, 0, 0⟩ := rfl
theorem restO_1 (a1 : ByteArray) (a2 a3 : Int) (a4 a5 : Bool) (a6 : ByteArray) (a7 a8 a9 : Int) (a10 a11 : Bool) (a12 a13 a14 a15 a16 : ByteArray) (a17 a18 a19 : Int) : restO ⟨1, a1, a2, a3, a4, a5, a6, a7, a8, a9, a10, a11, a12, a13, a14, a15, a16, a17, a18, a19⟩ = ⟨1, noText, 0, 0, false, false, a6, a7, a8, a9, false, false, noText, a13, a14, a15, a16, a17, a18, a19⟩ := rfl
theorem bareIff_1 (a1 : ByteArray) (a2 a3 : Int) (a4 a5 : Bool) (a6 : ByteArray) (a7 a8 a9 : Int) (a10 a11 : Bool) (a12 a13 a14 a15 a16 : ByteArray) (a17 a18 a19 : Int) : ((⟨1, a1, a2, a3, a4, a5, a6, a7, a8, a9, a10, a11, a12, a13, a14, a15, a16, a17, a18, a19⟩ : Obj) = bareR ⟨1, a1, a2, a3, a4, a5, a6, a7, a8, a9, a10, a11, a12, a13, a14, a15, a16, a17, a18, a19⟩) ↔ (restO ⟨1, a1, a2, a3, a4, a5, a6, a7, a8, a9, a10, a11, a12, a13, a14, a15, a16, a17, a18, a19⟩ = bareO 1) := by
  rw [bareR_1 _ _ _ _ _ _ _ _ _ _ _ _ _ _ _ _ _ _ _, restO_1 _ _ _ _ _ _ _ _ _ _ _ _ _ _ _ _ _ _ _]
  unfold bareO
  simp only [Obj.mk.injEq, true_and, and_true]
theorem bareR_2 (a1 : ByteArray) (a2 a3 : Int) (a4 a5 : Bool) (a6 : ByteArray) (a7 a8 a9 : Int) (a10 a11 : Bool) (a12 a13 a14 a15 a16 : ByteArray) (a17 a18 a19 : Int) : bareR ⟨2, a1, a2, a3, a4, a5, a6, a7, a8, a9, a10, a11, a12, a13, a14, a15, a16, a17, a18, a19⟩ = ⟨2, a1, a2, a3, a4, a5, noText, 0, 0, 0, false, false, a12, noText, noText, noText, noText, 0, 0, 0⟩ := rfl
theorem restO_2 (a1 : ByteArray) (a2 a3 : Int) (a4 a5 : Bool) (a6 : ByteArray) (a7 a8 a9 : Int) (a10 a11 : Bool) (a12 a13 a14 a15 a16 : ByteArray) (a17 a18 a19 : Int) : restO ⟨2, a1, a2, a3, a4, a5, a6, a7, a8, a9, a10, a11, a12, a13, a14, a15, a16, a17, a18, a19⟩ = ⟨2, noText, 0, 0, false, false, a6, a7, a8, a9, a10, a11, noText, a13, a14, a15, a16, a17, a18, a19⟩ := rfl
theorem bareIff_2 (a1 : ByteArray) (a2 a3 : Int) (a4 a5 : Bool) (a6 : ByteArray) (a7 a8 a9 : Int) (a10 a11 : Bool) (a12 a13 a14 a15 a16 : ByteArray) (a17 a18 a19 : Int) : ((⟨2, a1, a2, a3, a4, a5, a6, a7, a8, a9, a10, a11, a12, a13, a14, a15, a16, a17, a18, a19⟩ : Obj) = bareR ⟨2, a1, a2, a3, a4, a5, a6, a7, a8, a9, a10, a11, a12, a13, a14, a15, a16, a17, a18, a19⟩) ↔ (restO ⟨2, a1, a2, a3, a4, a5, a6, a7, a8, a9, a10, a11, a12, a13, a14, a15, a16, a17, a18, a19⟩ = bareO 2) := by
  rw [bareR_2 _ _ _ _ _ _ _ _ _ _ _ _ _ _ _ _ _ _ _, restO_2 _ _ _ _ _ _ _ _ _ _ _ _ _ _ _ _ _ _ _]
  unfold bareO
  simp only [Obj.mk.injEq, true_and, and_true]
theorem bareR_3 (a1 : ByteArray) (a2 a3 : Int) (a4 a5 : Bool) (a6 : ByteArray) (a7 a8 a9 : Int) (a10 a11 : Bool) (a12 a13 a14 a15 a16 : ByteArray) (a17 a18 a19 : Int) : bareR ⟨3, a1, a2, a3, a4, a5, a6, a7, a8, a9, a10, a11, a12, a13, a14, a15, a16, a17, a18, a19⟩ = ⟨3, a1, a2, a3, a4, a5, a6, a7, a8, a9, false, false, a12, a13, noText, a15, a16, a17, a18, 0⟩ := rfl
theorem restO_3 (a1 : ByteArray) (a2 a3 : Int) (a4 a5 : Bool) (a6 : ByteArray) (a7 a8 a9 : Int) (a10 a11 : Bool) (a12 a13 a14 a15 a16 : ByteArray) (a17 a18 a19 : Int) : restO ⟨3, a1, a2, a3, a4, a5, a6, a7, a8, a9, a10, a11, a12, a13, a14, a15, a16, a17, a18, a19⟩ = ⟨3, noText, 0, 0, false, false, noText, 0, 0, 0, a10, a11, noText, noText, a14, noText, noText, 0, 0, a19⟩ := rfl
theorem bareIff_3 (a1 : ByteArray) (a2 a3 : Int) (a4 a5 : Bool) (a6 : ByteArray) (a7 a8 a9 : Int) (a10 a11 : Bool) (a12 a13 a14 a15 a16 : ByteArray) (a17 a18 a19 : Int) : ((⟨3, a1, a2, a3, a4, a5, a6, a7, a8, a9, a10, a11, a12, a13, a14, a15, a16, a17, a18, a19⟩ : Obj) = bareR ⟨3, a1, a2, a3, a4, a5, a6, a7, a8, a9, a10, a11, a12, a13, a14, a15, a16, a17, a18, a19⟩) ↔ (restO ⟨3, a1, a2, a3, a4, a5, a6, a7, a8, a9, a10, a11, a12, a13, a14, a15, a16, a17, a18, a19⟩ = bareO 3) := by
  rw [bareR_3 _ _ _ _ _ _ _ _ _ _ _ _ _ _ _ _ _ _ _, restO_3 _ _ _ _ _ _ _ _ _ _ _ _ _ _ _ _ _ _ _]
  unfold bareO
  simp only [Obj.mk.injEq, true_and, and_true]
theorem bareR_4 (a1 : ByteArray) (a2 a3 : Int) (a4 a5 : Bool) (a6 : ByteArray) (a7 a8 a9 : Int) (a10 a11 : Bool) (a12 a13 a14 a15 a16 : ByteArray) (a17 a18 a19 : Int) : bareR ⟨4, a1, a2, a3, a4, a5, a6, a7, a8, a9, a10, a11, a12, a13, a14, a15, a16, a17, a18, a19⟩ = ⟨4, a1, a2, a3, a4, a5, a6, a7, a8, a9, a10, false, a12, noText, a14, noText, noText, a17, a18, 0⟩ := rfl
theorem restO_4 (a1 : ByteArray) (a2 a3 : Int) (a4 a5 : Bool) (a6 : ByteArray) (a7 a8 a9 : Int) (a10 a11 : Bool) (a12 a13 a14 a15 a16 : ByteArray) (a17 a18 a19 : Int) : restO ⟨4, a1, a2, a3, a4, a5, a6, a7, a8, a9, a10, a11, a12, a13, a14, a15, a16, a17, a18, a19⟩ = ⟨4, noText, 0, 0, false, false, noText, 0, 0, 0, false, a11, noText, a13, noText, a15, a16, 0, 0, a19⟩ := rfl
theorem bareIff_4 (a1 : ByteArray) (a2 a3 : Int) (a4 a5 : Bool) (a6 : ByteArray) (a7 a8 a9 : Int) (a10 a11 : Bool) (a12 a13 a14 a15 a16 : ByteArray) (a17 a18 a19 : Int) : ((⟨4, a1, a2, a3, a4, a5, a6, a7, a8, a9, a10, a11, a12, a13, a14, a15, a16, a17, a18, a19⟩ : Obj) = bareR ⟨4, a1, a2, a3, a4, a5, a6, a7, a8, a9, a10, a11, a12, a13, a14, a15, a16, a17, a18, a19⟩) ↔ (restO ⟨4, a1, a2, a3, a4, a5, a6, a7, a8, a9, a10, a11, a12, a13, a14, a15, a16, a17, a18, a19⟩ = bareO 4) := by
  rw [bareR_4 _ _ _ _ _ _ _ _ _ _ _ _ _ _ _ _ _ _ _, restO_4 _ _ _ _ _ _ _ _ _ _ _ _ _ _ _ _ _ _ _]
  unfold bareO
  simp only [Obj.mk.injEq, true_and, and_true]
theorem bareR_5 (a1 : ByteArray) (a2 a3 : Int) (a4 a5 : Bool) (a6 : ByteArray) (a7 a8 a9 : Int) (a10 a11 : Bool) (a12 a13 a14 a15 a16 : ByteArray) (a17 a18 a19 : Int) : bareR ⟨5, a1, a2, a3, a4, a5, a6, a7, a8, a9, a10, a11, a12, a13, a14, a15, a16, a17, a18, a19⟩ = ⟨5, a1, a2, a3, a4, a5, noText, 0, 0, 0, false, false, noText, a13, noText, a15, noText, a17, a18, 0⟩ := rfl
theorem restO_5 (a1 : ByteArray) (a2 a3 : Int) (a4 a5 : Bool) (a6 : ByteArray) (a7 a8 a9 : Int) (a10 a11 : Bool) (a12 a13 a14 a15 a16 : ByteArray) (a17 a18 a19 : Int) : restO ⟨5, a1, a2, a3, a4, a5, a6, a7, a8, a9, a10, a11, a12, a13, a14, a15, a16, a17, a18, a19⟩ = ⟨5, noText, 0, 0, false, false, a6, a7, a8, a9, a10, a11, a12, noText, a14, noText, a16, 0, 0, a19⟩ := rfl
theorem bareIff_5 (a1 : ByteArray) (a2 a3 : Int) (a4 a5 : Bool) (a6 : ByteArray) (a7 a8 a9 : Int) (a10 a11 : Bool) (a12 a13 a14 a15 a16 : ByteArray) (a17 a18 a19 : Int) : ((⟨5, a1, a2, a3, a4, a5, a6, a7, a8, a9, a10, a11, a12, a13, a14, a15, a16, a17, a18, a19⟩ : Obj) = bareR ⟨5, a1, a2, a3, a4, a5, a6, a7, a8, a9, a10, a11, a12, a13, a14, a15, a16, a17, a18, a19⟩) ↔ (restO ⟨5, a1, a2, a3, a4, a5, a6, a7, a8, a9, a10, a11, a12, a13, a14, a15, a16, a17, a18, a19⟩ = bareO 5) := by
  rw [bareR_5 _ _ _ _ _ _ _ _ _ _ _ _ _ _ _ _ _ _ _, restO_5 _ _ _ _ _ _ _ _ _ _ _ _ _ _ _ _ _ _ _]
  unfold bareO
  simp only [Obj.mk.injEq, true_and, and_true]
theorem bareR_6 (a1 : ByteArray) (a2 a3 : Int) (a4 a5 : Bool) (a6 : ByteArray) (a7 a8 a9 : Int) (a10 a11 : Bool) (a12 a13 a14 a15 a16 : ByteArray) (a17 a18 a19 : Int) : bareR ⟨6, a1, a2, a3, a4, a5, a6, a7, a8, a9, a10, a11, a12, a13, a14, a15, a16, a17, a18, a19⟩ = ⟨6, a1, a2, a3, a4, a5, noText, 0, 0, 0, false, false, noText, a13, a14, noText, noText, 0, 0, 0⟩ := rfl
theorem restO_6 (a1 : ByteArray) (a2 a3 : Int) (a4 a5 : Bool) (a6 : ByteArray) (a7 a8 a9 : Int) (a10 a11 : Bool) (a12 a13 a14 a15 a16 : ByteArray) (a17 a18 a19 : Int) : restO ⟨6, a1, a2, a3, a4, a5, a6, a7, a8, a9, a10, a11, a12, a13, a14, a15, a16, a17, a18, a19⟩ = ⟨6, noText, 0, 0, false, false, a6, a7, a8, a9, a10, a11, a12, noText, noText, a15, a16, a17, a18, a19⟩ := rfl
theorem bareIff_6 (a1 : ByteArray) (a2 a3 : Int) (a4 a5 : Bool) (a6 : ByteArray) (a7 a8 a9 : Int) (a10 a11 : Bool) (a12 a13 a14 a15 a16 : ByteArray) (a17 a18 a19 : Int) : ((⟨6, a1, a2, a3, a4, a5, a6, a7, a8, a9, a10, a11, a12, a13, a14, a15, a16, a17, a18, a19⟩ : Obj) = bareR ⟨6, a1, a2, a3, a4, a5, a6, a7, a8, a9, a10, a11, a12, a13, a14, a15, a16, a17, a18, a19⟩) ↔ (restO ⟨6, a1, a2, a3, a4, a5, a6, a7, a8, a9, a10, a11, a12, a13, a14, a15, a16, a17, a18, a19⟩ = bareO 6) := by
  rw [bareR_6 _ _ _ _ _ _ _ _ _ _ _ _ _ _ _ _ _ _ _, restO_6 _ _ _ _ _ _ _ _ _ _ _ _ _ _ _ _ _ _ _]
  unfold bareO
  simp only [Obj.mk.injEq, true_and, and_true]
theorem bareR_7 (a1 : ByteArray) (a2 a3 : Int) (a4 a5 : Bool) (a6 : ByteArray) (a7 a8 a9 : Int) (a10 a11 : Bool) (a12 a13 a14 a15 a16 : ByteArray) (a17 a18 a19 : Int) : bareR ⟨7, a1, a2, a3, a4, a5, a6, a7, a8, a9, a10, a11, a12, a13, a14, a15, a16, a17, a18, a19⟩ = ⟨7, a1, a2, a3, a4, a5, noText, 0, a8, 0, false, false, noText, noText, noText, a15, a16, a17, a18, a19⟩ := rfl
theorem restO_7 (a1 : ByteArray) (a2 a3 : Int) (a4 a5 : Bool) (a6 : ByteArray) (a7 a8 a9 : Int) (a10 a11 : Bool) (a12 a13 a14 a15 a16 : ByteArray) (a17 a18 a19 : Int) : restO ⟨7, a1, a2, a3, a4, a5, a6, a7, a8, a9, a10, a11, a12, a13, a14, a15, a16, a17, a18, a19⟩ = ⟨7, noText, 0, 0, false, false, a6, a7, 0, a9, a10, a11, a12, a13, a14, noText, noText, 0, 0, 0⟩ := rfl
theorem bareIff_7 (a1 : ByteArray) (a2 a3 : Int) (a4 a5 : Bool) (a6 : ByteArray) (a7 a8 a9 : Int) (a10 a11 : Bool) (a12 a13 a14 a15 a16 : ByteArray) (a17 a18 a19 : Int) : ((⟨7, a1, a2, a3, a4, a5, a6, a7, a8, a9, a10, a11, a12, a13, a14, a15, a16, a17, a18, a19⟩ : Obj) = bareR ⟨7, a1, a2, a3, a4, a5, a6, a7, a8, a9, a10, a11, a12, a13, a14, a15, a16, a17, a18, a19⟩) ↔ (restO ⟨7, a1, a2, a3, a4, a5, a6, a7, a8, a9, a10, a11, a12, a13, a14, a15, a16, a17, a18, a19⟩ = bareO 7) := by
  rw [bareR_7 _ _ _ _ _ _ _ _ _ _ _ _ _ _ _ _ _ _ _, restO_7 _ _ _ _ _ _ _ _ _ _ _ _ _ _ _ _ _ _ _]
  unfold bareO
  simp only [Obj.mk.injEq, true_and, and_true]
theorem bareR_0 (kk : Int) (a1 : ByteArray) (a2 a3 : Int) (a4 a5 : Bool) (a6 : ByteArray) (a7 a8 a9 : Int) (a10 a11 : Bool) (a12 a13 a14 a15 a16 : ByteArray) (a17 a18 a19 : Int) (n1 : ¬ kk = 1) (n2 : ¬ kk = 2) (n3 : ¬ kk = 3) (n4 : ¬ kk = 4) (n5 : ¬ kk = 5) (n6 : ¬ kk = 6) (n7 : ¬ kk = 7) : bareR ⟨kk, a1, a2, a3, a4, a5, a6, a7, a8, a9, a10, a11, a12, a13, a14, a15, a16, a17, a18, a19⟩ = ⟨kk, a1, a2, a3, a4, a5, noText, 0, 0, 0, false, false, noText, noText, noText, noText, noText, 0, 0, 0⟩ := by simp only [bareR, bareO, n1, n2, n3, n4, n5, n6, n7, if_false]
theorem restO_0 (kk : Int) (a1 : ByteArray) (a2 a3 : Int) (a4 a5 : Bool) (a6 : ByteArray) (a7 a8 a9 : Int) (a10 a11 : Bool) (a12 a13 a14 a15 a16 : ByteArray) (a17 a18 a19 : Int) (n1 : ¬ kk = 1) (n2 : ¬ kk = 2) (n3 : ¬ kk = 3) (n4 : ¬ kk = 4) (n5 : ¬ kk = 5) (n6 : ¬ kk = 6) (n7 : ¬ kk = 7) : restO ⟨kk, a1, a2, a3, a4, a5, a6, a7, a8, a9, a10, a11, a12, a13, a14, a15, a16, a17, a18, a19⟩ = ⟨kk, noText, 0, 0, false, false, a6, a7, a8, a9, a10, a11, a12, a13, a14, a15, a16, a17, a18, a19⟩ := by simp only [restO, n1, n2, n3, n4, n5, n6, n7, if_false]
theorem bareIff_0 (kk : Int) (a1 : ByteArray) (a2 a3 : Int) (a4 a5 : Bool) (a6 : ByteArray) (a7 a8 a9 : Int) (a10 a11 : Bool) (a12 a13 a14 a15 a16 : ByteArray) (a17 a18 a19 : Int) (n1 : ¬ kk = 1) (n2 : ¬ kk = 2) (n3 : ¬ kk = 3) (n4 : ¬ kk = 4) (n5 : ¬ kk = 5) (n6 : ¬ kk = 6) (n7 : ¬ kk = 7) : ((⟨kk, a1, a2, a3, a4, a5, a6, a7, a8, a9, a10, a11, a12, a13, a14, a15, a16, a17, a18, a19⟩ : Obj) = bareR ⟨kk, a1, a2, a3, a4, a5, a6, a7, a8, a9, a10, a11, a12, a13, a14, a15, a16, a17, a18, a19⟩) ↔ (restO ⟨kk, a1, a2, a3, a4, a5, a6, a7, a8, a9, a10, a11, a12, a13, a14, a15, a16, a17, a18, a19⟩ = bareO kk) := by
  rw [bareR_0 _ _ _ _ _ _ _ _ _ _ _ _ _ _ _ _ _ _ _ _ n1 n2 n3 n4 n5 n6 n7, restO_0 _ _ _ _ _ _ _ _ _ _ _ _ _ _ _ _ _ _ _ _ n1 n2 n3 n4 n5 n6 n7]
  unfold bareO
  simp only [Obj.mk.injEq, true_and, and_true]
theorem bareR_iff (o : Obj) : (o = bareR o) ↔ (restO o = bareO o.kind) := by
  obtain ⟨kk, a1, a2, a3, a4, a5, a6, a7, a8, a9, a10, a11, a12, a13, a14, a15, a16, a17, a18, a19⟩ := o
  by_cases k1 : kk = 1
  · subst k1; exact bareIff_1 _ _ _ _ _ _ _ _ _ _ _ _ _ _ _ _ _ _ _
  by_cases k2 : kk = 2
  · subst k2; exact bareIff_2 _ _ _ _ _ _ _ _ _ _ _ _ _ _ _ _ _ _ _
  by_cases k3 : kk = 3
  · subst k3; exact bareIff_3 _ _ _ _ _ _ _ _ _ _ _ _ _ _ _ _ _ _ _
  by_cases k4 : kk = 4
  · subst k4; exact bareIff_4 _ _ _ _ _ _ _ _ _ _ _ _ _ _ _ _ _ _ _
  by_cases k5 : kk = 5
  · subst k5; exact bareIff_5 _ _ _ _ _ _ _ _ _ _ _ _ _ _ _ _ _ _ _
  by_cases k6 : kk = 6
  · subst k6; exact bareIff_6 _ _ _ _ _ _ _ _ _ _ _ _ _ _ _ _ _ _ _
  by_cases k7 : kk = 7
  · subst k7; exact bareIff_7 _ _ _ _ _ _ _ _ _ _ _ _ _ _ _ _ _ _ _
  exact bareIff_0 _ _ _ _ _ _ _ _ _ _ _ _ _ _ _ _ _ _ _ _ k1 k2 k3 k4 k5 k6 k7

theorem heap_setCell_at {w : World} {b o : Nat} {v : Value} {cs : Array Value} {t : TypeId} {fr : Nat × Nat} (h : w.heap[b]? = some (.cells cs t fr)) :
    (w.setCell ⟨b, o, none⟩ v).heap[b]? = some (.cells (cs.setIfInBounds o v) t fr) := by
  simp [World.setCell, Array.getElem?_modify, h]
theorem frozen_of {w : World} {b : Nat} {cs : Array Value} {t : TypeId} (h : w.heap[b]? = some (.cells cs t (0, 0))) (o : Nat) : w.frozen? ⟨b, o, none⟩ = false := by simp [World.frozen?, h]
theorem frozen_set {w : World} {a : Addr} {v : Value} {b o : Nat} (h : w.frozen? ⟨b, o, none⟩ = false) (o' : Nat) (hb : ∃ cs t, w.heap[b]? = some (.cells cs t (0, 0))) : (w.setCell a v).frozen? ⟨b, o', none⟩ = false := by
  obtain ⟨cs, t, hb⟩ := hb
  simp only [World.frozen?, World.setCell]
  by_cases e : a.block = b
  · subst e; simp [Array.getElem?_modify, hb]
  · simp [Array.getElem?_modify, hb, e]


theorem keepA_set {w : World} {A B j : Nat} {v : Value} {c : Nat → Option Value} (h : A ≠ B) (hw : ∀ i, w.cell? ⟨A, i, none⟩ = c i) : ∀ i, (w.setCell ⟨B, j, none⟩ v).cell? ⟨A, i, none⟩ = c i := fun i =>
  (World.cell?_of_block (a := ⟨A, i, none⟩) (Below.heap_setCell w ⟨B, j, none⟩ v A h)).trans (hw i)
theorem keepA_fin {p : Prop} (h : p) : p := h
theorem below_Wset' {w : World} {b n : Nat} {o : Go.Obj} (hn : n ≤ b) : Below n w (Wset w b o) := ⟨rfl, rfl, rfl, by simp [Wset], fun k hk => Wset_ne (by omega)⟩
/-- a whole object is stored, and the world is seen through what is asked of it -/
theorem wpList_storeBare {ops : Array Oper} {Q : Exit → Act → World → Prop} {o : Oper} {rest : List Oper} {a : Act} {w w0 : World} (hg : o.guard = none) (x y : Operand) (hop : o.op = .store 27 x y) (b : Nat) (hx : a.eval x = .pointer (some ⟨b, 0, none⟩))
    (p : Obj) (hy : a.eval y = .agg (cellsO p)) (cs : Array Value) (h : w.heap[b]? = some (.cells cs 27 (0, 0))) (hs : cs.size = 20) (A R : Nat) (q : Obj) (hA : w.heap[A]? = some (.cells (cellsO q) 27)) (hAb : A ≠ b) (r : Array Value) (hR : w.heap[R]? = some (.cells r 27)) (hr : r.size = 20) (hRb : R ≠ b) (hB : Below w0.heap.size w0 w) (hn : w0.heap.size ≤ b)
    (hK : ∀ W : World, W.heap[b]? = some (.cells (cellsO p) 27) → W.heap[A]? = some (.cells (cellsO q) 27) → (∃ r : Array Value, W.heap[R]? = some (.cells r 27) ∧ r.size = 20) → Below w0.heap.size w0 W → wpList Try.prog ops Q rest (a.put o.dst undef) W) :
    wpList Try.prog ops Q (o :: rest) a w :=
  wpList_storeObj hg x y hop b hx p hy cs h hs (hK _ (Wset_same (heap_lt h)) ((Wset_ne hAb).trans hA) ⟨r, (Wset_ne hRb).trans hR, hr⟩ (hB.trans (below_Wset' hn)))


end Go.Proofs.Ytgplolfkfhhddaa
