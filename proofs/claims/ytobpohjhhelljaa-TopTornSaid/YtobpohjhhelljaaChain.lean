/- Layer 4 (codec), plainly: the cases of an object's fields, one behind the other. -/
import Derived.Test.YtobpohjhhelljaaPure
namespace Go.Proofs.Ytobpohjhhelljaa
open Go.RowKit
set_option linter.unusedVariables false
set_option linter.unusedSimpArgs false


def objOf (k : UInt8) (name : ByteArray) (ver : Nat) (born : Nat) (f : Nat) (cls : ByteArray) (size : Nat) (got : Nat) (mode : UInt8) (zone : ByteArray) (node : ByteArray) (claim : ByteArray) (volume : ByteArray) (source : ByteArray) (phase : UInt8) (num : Nat) (tag : Nat) : Obj := ⟨k.toNat, name, ver, born, f % 2 == 1, f / 2 % 2 == 1, cls, size, got, mode.toNat, f / 4 % 2 == 1, f / 8 % 2 == 1, zone, node, claim, volume, source, phase.toNat, num, tag⟩
def G17 (L : Nat) (k : UInt8) (name : ByteArray) (ver : Nat) (born : Nat) (f : Nat) (cls : ByteArray) (size : Nat) (got : Nat) (mode : UInt8) (zone : ByteArray) (node : ByteArray) (claim : ByteArray) (volume : ByteArray) (source : ByteArray) (phase : UInt8) (num : Nat) (tag : Nat) (bs : Bs) : Option (Obj × Bs) := some (objOf k name ver born f cls size got mode zone node claim volume source phase num tag, bs)
def G16 (L : Nat) (k : UInt8) (name : ByteArray) (ver : Nat) (born : Nat) (f : Nat) (cls : ByteArray) (size : Nat) (got : Nat) (mode : UInt8) (zone : ByteArray) (node : ByteArray) (claim : ByteArray) (volume : ByteArray) (source : ByteArray) (phase : UInt8) (num : Nat) (bs : Bs) : Option (Obj × Bs) := wd (numD 0 bs) fun x bs => G17 L k name ver born f cls size got mode zone node claim volume source phase num x bs
def G15 (L : Nat) (k : UInt8) (name : ByteArray) (ver : Nat) (born : Nat) (f : Nat) (cls : ByteArray) (size : Nat) (got : Nat) (mode : UInt8) (zone : ByteArray) (node : ByteArray) (claim : ByteArray) (volume : ByteArray) (source : ByteArray) (phase : UInt8) (bs : Bs) : Option (Obj × Bs) := wd (numD 0 bs) fun x bs => G16 L k name ver born f cls size got mode zone node claim volume source phase x bs
def G14 (L : Nat) (k : UInt8) (name : ByteArray) (ver : Nat) (born : Nat) (f : Nat) (cls : ByteArray) (size : Nat) (got : Nat) (mode : UInt8) (zone : ByteArray) (node : ByteArray) (claim : ByteArray) (volume : ByteArray) (source : ByteArray) (bs : Bs) : Option (Obj × Bs) := wd (byteD bs) fun x bs => G15 L k name ver born f cls size got mode zone node claim volume source x bs
def G13 (L : Nat) (k : UInt8) (name : ByteArray) (ver : Nat) (born : Nat) (f : Nat) (cls : ByteArray) (size : Nat) (got : Nat) (mode : UInt8) (zone : ByteArray) (node : ByteArray) (claim : ByteArray) (volume : ByteArray) (bs : Bs) : Option (Obj × Bs) := wd (textD L bs) fun x bs => G14 L k name ver born f cls size got mode zone node claim volume x bs
def G12 (L : Nat) (k : UInt8) (name : ByteArray) (ver : Nat) (born : Nat) (f : Nat) (cls : ByteArray) (size : Nat) (got : Nat) (mode : UInt8) (zone : ByteArray) (node : ByteArray) (claim : ByteArray) (bs : Bs) : Option (Obj × Bs) := wd (textD L bs) fun x bs => G13 L k name ver born f cls size got mode zone node claim x bs
def G11 (L : Nat) (k : UInt8) (name : ByteArray) (ver : Nat) (born : Nat) (f : Nat) (cls : ByteArray) (size : Nat) (got : Nat) (mode : UInt8) (zone : ByteArray) (node : ByteArray) (bs : Bs) : Option (Obj × Bs) := wd (textD L bs) fun x bs => G12 L k name ver born f cls size got mode zone node x bs
def G10 (L : Nat) (k : UInt8) (name : ByteArray) (ver : Nat) (born : Nat) (f : Nat) (cls : ByteArray) (size : Nat) (got : Nat) (mode : UInt8) (zone : ByteArray) (bs : Bs) : Option (Obj × Bs) := wd (textD L bs) fun x bs => G11 L k name ver born f cls size got mode zone x bs
def G9 (L : Nat) (k : UInt8) (name : ByteArray) (ver : Nat) (born : Nat) (f : Nat) (cls : ByteArray) (size : Nat) (got : Nat) (mode : UInt8) (bs : Bs) : Option (Obj × Bs) := wd (textD L bs) fun x bs => G10 L k name ver born f cls size got mode x bs
def G8 (L : Nat) (k : UInt8) (name : ByteArray) (ver : Nat) (born : Nat) (f : Nat) (cls : ByteArray) (size : Nat) (got : Nat) (bs : Bs) : Option (Obj × Bs) := wd (byteD bs) fun x bs => G9 L k name ver born f cls size got x bs
def G7 (L : Nat) (k : UInt8) (name : ByteArray) (ver : Nat) (born : Nat) (f : Nat) (cls : ByteArray) (size : Nat) (bs : Bs) : Option (Obj × Bs) := wd (sizeD bs) fun x bs => G8 L k name ver born f cls size x bs
def G6 (L : Nat) (k : UInt8) (name : ByteArray) (ver : Nat) (born : Nat) (f : Nat) (cls : ByteArray) (bs : Bs) : Option (Obj × Bs) := wd (sizeD bs) fun x bs => G7 L k name ver born f cls x bs
def G5 (L : Nat) (k : UInt8) (name : ByteArray) (ver : Nat) (born : Nat) (f : Nat) (bs : Bs) : Option (Obj × Bs) := wd (textD L bs) fun x bs => G6 L k name ver born f x bs
def H4 (L : Nat) (k : UInt8) (name : ByteArray) (ver : Nat) (born : Nat) (c : UInt8) (bs : Bs) : Option (Obj × Bs) := if c.toNat < 16 then G5 L k name ver born c.toNat bs else none
def G4 (L : Nat) (k : UInt8) (name : ByteArray) (ver : Nat) (born : Nat) (bs : Bs) : Option (Obj × Bs) := wd (byteD bs) fun c bs => H4 L k name ver born c bs
def G3 (L : Nat) (k : UInt8) (name : ByteArray) (ver : Nat) (bs : Bs) : Option (Obj × Bs) := wd (numD 0 bs) fun x bs => G4 L k name ver x bs
def G2 (L : Nat) (k : UInt8) (name : ByteArray) (bs : Bs) : Option (Obj × Bs) := wd (numD 0 bs) fun x bs => G3 L k name x bs
def G1 (L : Nat) (k : UInt8) (bs : Bs) : Option (Obj × Bs) := wd (textD L bs) fun x bs => G2 L k x bs
def G0 (L : Nat)  (bs : Bs) : Option (Obj × Bs) := wd (byteD bs) fun x bs => G1 L  x bs
theorem flagsD_byte (bs : Bs) : flagsD bs = wd (byteD bs) fun c r => if c.toNat < 16 then some (c.toNat, r) else none := by
  cases bs <;> rfl
theorem fieldsD_G (L : Nat) (bs : Bs) : fieldsD L bs = G0 L bs := by
  unfold fieldsD
  have e : ∀ (F : Nat → Bs → Option (Obj × Bs)) (bs : Bs), wd (flagsD bs) F = wd (byteD bs) fun c r => if c.toNat < 16 then F c.toNat r else none := by
    intro F bs
    rw [flagsD_byte]
    cases byteD bs with
    | none => rfl
    | some x =>
      obtain ⟨c, r⟩ := x
      simp only [wd]
      by_cases h : c.toNat < 16
      · simp only [if_pos h]
      · simp only [if_neg h]
  simp only [e]
  rfl
theorem G0_some {L : Nat}  {bs r : Bs} {x : UInt8} (h : byteD bs = some (x, r)) : G0 L  bs = G1 L  x r := by unfold G0; rw [h]
theorem G0_none {L : Nat}  {bs : Bs} (h : byteD bs = none) : G0 L  bs = none := by unfold G0; rw [h]
theorem G1_some {L : Nat} {k : UInt8} {bs r : Bs} {x : ByteArray} (h : textD L bs = some (x, r)) : G1 L k bs = G2 L k x r := by unfold G1; rw [h]
theorem G1_none {L : Nat} {k : UInt8} {bs : Bs} (h : textD L bs = none) : G1 L k bs = none := by unfold G1; rw [h]
theorem G2_some {L : Nat} {k : UInt8} {name : ByteArray} {bs r : Bs} {x : Nat} (h : numD 0 bs = some (x, r)) : G2 L k name bs = G3 L k name x r := by unfold G2; rw [h]
theorem G2_none {L : Nat} {k : UInt8} {name : ByteArray} {bs : Bs} (h : numD 0 bs = none) : G2 L k name bs = none := by unfold G2; rw [h]
theorem G3_some {L : Nat} {k : UInt8} {name : ByteArray} {ver : Nat} {bs r : Bs} {x : Nat} (h : numD 0 bs = some (x, r)) : G3 L k name ver bs = G4 L k name ver x r := by unfold G3; rw [h]
theorem G3_none {L : Nat} {k : UInt8} {name : ByteArray} {ver : Nat} {bs : Bs} (h : numD 0 bs = none) : G3 L k name ver bs = none := by unfold G3; rw [h]
theorem G4_some {L : Nat} {k : UInt8} {name : ByteArray} {ver : Nat} {born : Nat} {bs r : Bs} {x : UInt8} (h : byteD bs = some (x, r)) : G4 L k name ver born bs = H4 L k name ver born x r := by unfold G4; rw [h]
theorem G4_none {L : Nat} {k : UInt8} {name : ByteArray} {ver : Nat} {born : Nat} {bs : Bs} (h : byteD bs = none) : G4 L k name ver born bs = none := by unfold G4; rw [h]
theorem G5_some {L : Nat} {k : UInt8} {name : ByteArray} {ver : Nat} {born : Nat} {f : Nat} {bs r : Bs} {x : ByteArray} (h : textD L bs = some (x, r)) : G5 L k name ver born f bs = G6 L k name ver born f x r := by unfold G5; rw [h]
theorem G5_none {L : Nat} {k : UInt8} {name : ByteArray} {ver : Nat} {born : Nat} {f : Nat} {bs : Bs} (h : textD L bs = none) : G5 L k name ver born f bs = none := by unfold G5; rw [h]
theorem G6_some {L : Nat} {k : UInt8} {name : ByteArray} {ver : Nat} {born : Nat} {f : Nat} {cls : ByteArray} {bs r : Bs} {x : Nat} (h : sizeD bs = some (x, r)) : G6 L k name ver born f cls bs = G7 L k name ver born f cls x r := by unfold G6; rw [h]
theorem G6_none {L : Nat} {k : UInt8} {name : ByteArray} {ver : Nat} {born : Nat} {f : Nat} {cls : ByteArray} {bs : Bs} (h : sizeD bs = none) : G6 L k name ver born f cls bs = none := by unfold G6; rw [h]
theorem G7_some {L : Nat} {k : UInt8} {name : ByteArray} {ver : Nat} {born : Nat} {f : Nat} {cls : ByteArray} {size : Nat} {bs r : Bs} {x : Nat} (h : sizeD bs = some (x, r)) : G7 L k name ver born f cls size bs = G8 L k name ver born f cls size x r := by unfold G7; rw [h]
theorem G7_none {L : Nat} {k : UInt8} {name : ByteArray} {ver : Nat} {born : Nat} {f : Nat} {cls : ByteArray} {size : Nat} {bs : Bs} (h : sizeD bs = none) : G7 L k name ver born f cls size bs = none := by unfold G7; rw [h]
theorem G8_some {L : Nat} {k : UInt8} {name : ByteArray} {ver : Nat} {born : Nat} {f : Nat} {cls : ByteArray} {size : Nat} {got : Nat} {bs r : Bs} {x : UInt8} (h : byteD bs = some (x, r)) : G8 L k name ver born f cls size got bs = G9 L k name ver born f cls size got x r := by unfold G8; rw [h]
theorem G8_none {L : Nat} {k : UInt8} {name : ByteArray} {ver : Nat} {born : Nat} {f : Nat} {cls : ByteArray} {size : Nat} {got : Nat} {bs : Bs} (h : byteD bs = none) : G8 L k name ver born f cls size got bs = none := by unfold G8; rw [h]
theorem G9_some {L : Nat} {k : UInt8} {name : ByteArray} {ver : Nat} {born : Nat} {f : Nat} {cls : ByteArray} {size : Nat} {got : Nat} {mode : UInt8} {bs r : Bs} {x : ByteArray} (h : textD L bs = some (x, r)) : G9 L k name ver born f cls size got mode bs = G10 L k name ver born f cls size got mode x r := by unfold G9; rw [h]
theorem G9_none {L : Nat} {k : UInt8} {name : ByteArray} {ver : Nat} {born : Nat} {f : Nat} {cls : ByteArray} {size : Nat} {got : Nat} {mode : UInt8} {bs : Bs} (h : textD L bs = none) : G9 L k name ver born f cls size got mode bs = none := by unfold G9; rw [h]
theorem G10_some {L : Nat} {k : UInt8} {name : ByteArray} {ver : Nat} {born : Nat} {f : Nat} {cls : ByteArray} {size : Nat} {got : Nat} {mode : UInt8} {zone : ByteArray} {bs r : Bs} {x : ByteArray} (h : textD L bs = some (x, r)) : G10 L k name ver born f cls size got mode zone bs = G11 L k name ver born f cls size got mode zone x r := by unfold G10; rw [h]
theorem G10_none {L : Nat} {k : UInt8} {name : ByteArray} {ver : Nat} {born : Nat} {f : Nat} {cls : ByteArray} {size : Nat} {got : Nat} {mode : UInt8} {zone : ByteArray} {bs : Bs} (h : textD L bs = none) : G10 L k name ver born f cls size got mode zone bs = none := by unfold G10; rw [h]
theorem G11_some {L : Nat} {k : UInt8} {name : ByteArray} {ver : Nat} {born : Nat} {f : Nat} {cls : ByteArray} {size : Nat} {got : Nat} {mode : UInt8} {zone : ByteArray} {node : ByteArray} {bs r : Bs} {x : ByteArray} (h : textD L bs = some (x, r)) : G11 L k name ver born f cls size got mode zone node bs = G12 L k name ver born f cls size got mode zone node x r := by unfold G11; rw [h]
theorem G11_none {L : Nat} {k : UInt8} {name : ByteArray} {ver : Nat} {born : Nat} {f : Nat} {cls : ByteArray} {size : Nat} {got : Nat} {mode : UInt8} {zone : ByteArray} {node : ByteArray} {bs : Bs} (h : textD L bs = none) : G11 L k name ver born f cls size got mode zone node bs = none := by unfold G11; rw [h]
theorem G12_some {L : Nat} {k : UInt8} {name : ByteArray} {ver : Nat} {born : Nat} {f : Nat} {cls : ByteArray} {size : Nat} {got : Nat} {mode : UInt8} {zone : ByteArray} {node : ByteArray} {claim : ByteArray} {bs r : Bs} {x : ByteArray} (h : textD L bs = some (x, r)) : G12 L k name ver born f cls size got mode zone node claim bs = G13 L k name ver born f cls size got mode zone node claim x r := by unfold G12; rw [h]
theorem G12_none {L : Nat} {k : UInt8} {name : ByteArray} {ver : Nat} {born : Nat} {f : Nat} {cls : ByteArray} {size : Nat} {got : Nat} {mode : UInt8} {zone : ByteArray} {node : ByteArray} {claim : ByteArray} {bs : Bs} (h : textD L bs = none) : G12 L k name ver born f cls size got mode zone node claim bs = none := by unfold G12; rw [h]
theorem G13_some {L : Nat} {k : UInt8} {name : ByteArray} {ver : Nat} {born : Nat} {f : Nat} {cls : ByteArray} {size : Nat} {got : Nat} {mode : UInt8} {zone : ByteArray} {node : ByteArray} {claim : ByteArray} {volume : ByteArray} {bs r : Bs} {x : ByteArray} (h : textD L bs = some (x, r)) : G13 L k name ver born f cls size got mode zone node claim volume bs = G14 L k name ver born f cls size got mode zone node claim volume x r := by unfold G13; rw [h]
theorem G13_none {L : Nat} {k : UInt8} {name : ByteArray} {ver : Nat} {born : Nat} {f : Nat} {cls : ByteArray} {size : Nat} {got : Nat} {mode : UInt8} {zone : ByteArray} {node : ByteArray} {claim : ByteArray} {volume : ByteArray} {bs : Bs} (h : textD L bs = none) : G13 L k name ver born f cls size got mode zone node claim volume bs = none := by unfold G13; rw [h]
theorem G14_some {L : Nat} {k : UInt8} {name : ByteArray} {ver : Nat} {born : Nat} {f : Nat} {cls : ByteArray} {size : Nat} {got : Nat} {mode : UInt8} {zone : ByteArray} {node : ByteArray} {claim : ByteArray} {volume : ByteArray} {source : ByteArray} {bs r : Bs} {x : UInt8} (h : byteD bs = some (x, r)) : G14 L k name ver born f cls size got mode zone node claim volume source bs = G15 L k name ver born f cls size got mode zone node claim volume source x r := by unfold G14; rw [h]
theorem G14_none {L : Nat} {k : UInt8} {name : ByteArray} {ver : Nat} {born : Nat} {f : Nat} {cls : ByteArray} {size : Nat} {got : Nat} {mode : UInt8} {zone : ByteArray} {node : ByteArray} {claim : ByteArray} {volume : ByteArray} {source : ByteArray} {bs : Bs} (h : byteD bs = none) : G14 L k name ver born f cls size got mode zone node claim volume source bs = none := by unfold G14; rw [h]
theorem G15_some {L : Nat} {k : UInt8} {name : ByteArray} {ver : Nat} {born : Nat} {f : Nat} {cls : ByteArray} {size : Nat} {got : Nat} {mode : UInt8} {zone : ByteArray} {node : ByteArray} {claim : ByteArray} {volume : ByteArray} {source : ByteArray} {phase : UInt8} {bs r : Bs} {x : Nat} (h : numD 0 bs = some (x, r)) : G15 L k name ver born f cls size got mode zone node claim volume source phase bs = G16 L k name ver born f cls size got mode zone node claim volume source phase x r := by unfold G15; rw [h]
theorem G15_none {L : Nat} {k : UInt8} {name : ByteArray} {ver : Nat} {born : Nat} {f : Nat} {cls : ByteArray} {size : Nat} {got : Nat} {mode : UInt8} {zone : ByteArray} {node : ByteArray} {claim : ByteArray} {volume : ByteArray} {source : ByteArray} {phase : UInt8} {bs : Bs} (h : numD 0 bs = none) : G15 L k name ver born f cls size got mode zone node claim volume source phase bs = none := by unfold G15; rw [h]
theorem G16_some {L : Nat} {k : UInt8} {name : ByteArray} {ver : Nat} {born : Nat} {f : Nat} {cls : ByteArray} {size : Nat} {got : Nat} {mode : UInt8} {zone : ByteArray} {node : ByteArray} {claim : ByteArray} {volume : ByteArray} {source : ByteArray} {phase : UInt8} {num : Nat} {bs r : Bs} {x : Nat} (h : numD 0 bs = some (x, r)) : G16 L k name ver born f cls size got mode zone node claim volume source phase num bs = G17 L k name ver born f cls size got mode zone node claim volume source phase num x r := by unfold G16; rw [h]
theorem G16_none {L : Nat} {k : UInt8} {name : ByteArray} {ver : Nat} {born : Nat} {f : Nat} {cls : ByteArray} {size : Nat} {got : Nat} {mode : UInt8} {zone : ByteArray} {node : ByteArray} {claim : ByteArray} {volume : ByteArray} {source : ByteArray} {phase : UInt8} {num : Nat} {bs : Bs} (h : numD 0 bs = none) : G16 L k name ver born f cls size got mode zone node claim volume source phase num bs = none := by unfold G16; rw [h]
theorem H4_some {L : Nat} {k : UInt8} {name : ByteArray} {ver : Nat} {born : Nat} {bs : Bs} {c : UInt8} (h : c.toNat < 16) : H4 L k name ver born c bs = G5 L k name ver born c.toNat bs := if_pos h
theorem H4_none {L : Nat} {k : UInt8} {name : ByteArray} {ver : Nat} {born : Nat} {bs : Bs} {c : UInt8} (h : ¬ c.toNat < 16) : H4 L k name ver born c bs = none := if_neg h

end Go.Proofs.Ytobpohjhhelljaa
