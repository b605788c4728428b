/- Layer 3 (object): an object as an argument of a law. -/
import Derived.Test.YtpclhiookajiiaaGreatW3
import Derived.Test.YtpclhiookajiiaaGreatOpen
import Derived.Test.YtpclhiookajiiaaGreatLaw
import Derived.ChangeArms
namespace Go.Proofs.YtpclhiookajiiaaGreat
open Go.RowKit
set_option linter.unusedVariables false
set_option linter.unusedSimpArgs false

open Go.ChangeShapes Go.WideShapes Go.ChangeAt

theorem cells_obj : Tryz.prog.cellsOf 28 = 20 := by kernel_rfl
theorem cells_tKind : Tryz.prog.cellsOf 23 = 1 := by kernel_rfl
theorem cells_tMode : Tryz.prog.cellsOf 25 = 1 := by kernel_rfl
theorem cells_tPhase : Tryz.prog.cellsOf 26 = 1 := by kernel_rfl
theorem cells_tU64 : Tryz.prog.cellsOf 24 = 1 := by kernel_rfl
theorem cells_tI64 : Tryz.prog.cellsOf 2 = 1 := by kernel_rfl
theorem cells_tStr : Tryz.prog.cellsOf 9 = 1 := by kernel_rfl
theorem cells_tBool : Tryz.prog.cellsOf 4 = 1 := by kernel_rfl

/-- an object's whole numbers are those of their types -/
structure Obj.Wf (o : Obj) : Prop where
  kind : (Lit.int .u8 o.kind).wf = true
  version : (Lit.int .u64 o.version).wf = true
  born : (Lit.int .u64 o.born).wf = true
  size : (Lit.int .i64 o.size).wf = true
  got : (Lit.int .i64 o.got).wf = true
  mode : (Lit.int .u8 o.mode).wf = true
  phase : (Lit.int .u8 o.phase).wf = true
  num : (Lit.int .u64 o.num).wf = true
  tag : (Lit.int .u64 o.tag).wf = true

set_option maxRecDepth 100000 in
set_option maxHeartbeats 4000000 in
theorem open_obj {H : Type} {enc : TypeId × Value → H} {w : World} {base : Nat} {sp : Nat → Bool} {held : Bool} {fuel : Nat} {cs : List Value} {x : DataW H × List MemPlace}
    (h : DataW.trod enc Tryz.prog w base sp held fuel 28 cs = some x) : ∃ o : Obj, cs = (cellsO o).toList ∧ o.Fits ∧ o.Wf := by
  obtain ⟨hl, n, xs, hm⟩ := trod_struct Tryz.underlying28 h
  rw [cells_obj] at hl
  match cs, hl with
  | [x0, x1, x2, x3, x4, x5, x6, x7, x8, x9, x10, x11, x12, x13, x14, x15, x16, x17, x18, x19], _ =>
    obtain ⟨y0, h0⟩ := mapM_at hm 0 (by simp)
    obtain ⟨y1, h1⟩ := mapM_at hm 1 (by simp)
    obtain ⟨y2, h2⟩ := mapM_at hm 2 (by simp)
    obtain ⟨y3, h3⟩ := mapM_at hm 3 (by simp)
    obtain ⟨y4, h4⟩ := mapM_at hm 4 (by simp)
    obtain ⟨y5, h5⟩ := mapM_at hm 5 (by simp)
    obtain ⟨y6, h6⟩ := mapM_at hm 6 (by simp)
    obtain ⟨y7, h7⟩ := mapM_at hm 7 (by simp)
    obtain ⟨y8, h8⟩ := mapM_at hm 8 (by simp)
    obtain ⟨y9, h9⟩ := mapM_at hm 9 (by simp)
    obtain ⟨y10, h10⟩ := mapM_at hm 10 (by simp)
    obtain ⟨y11, h11⟩ := mapM_at hm 11 (by simp)
    obtain ⟨y12, h12⟩ := mapM_at hm 12 (by simp)
    obtain ⟨y13, h13⟩ := mapM_at hm 13 (by simp)
    obtain ⟨y14, h14⟩ := mapM_at hm 14 (by simp)
    obtain ⟨y15, h15⟩ := mapM_at hm 15 (by simp)
    obtain ⟨y16, h16⟩ := mapM_at hm 16 (by simp)
    obtain ⟨y17, h17⟩ := mapM_at hm 17 (by simp)
    obtain ⟨y18, h18⟩ := mapM_at hm 18 (by simp)
    obtain ⟨y19, h19⟩ := mapM_at hm 19 (by simp)
    clear hm
    simp [cells_tKind, cells_tMode, cells_tPhase, cells_tU64, cells_tI64, cells_tStr, cells_tBool] at h0
    simp [cells_tKind, cells_tMode, cells_tPhase, cells_tU64, cells_tI64, cells_tStr, cells_tBool] at h1
    simp [cells_tKind, cells_tMode, cells_tPhase, cells_tU64, cells_tI64, cells_tStr, cells_tBool] at h2
    simp [cells_tKind, cells_tMode, cells_tPhase, cells_tU64, cells_tI64, cells_tStr, cells_tBool] at h3
    simp [cells_tKind, cells_tMode, cells_tPhase, cells_tU64, cells_tI64, cells_tStr, cells_tBool] at h4
    simp [cells_tKind, cells_tMode, cells_tPhase, cells_tU64, cells_tI64, cells_tStr, cells_tBool] at h5
    simp [cells_tKind, cells_tMode, cells_tPhase, cells_tU64, cells_tI64, cells_tStr, cells_tBool] at h6
    simp [cells_tKind, cells_tMode, cells_tPhase, cells_tU64, cells_tI64, cells_tStr, cells_tBool] at h7
    simp [cells_tKind, cells_tMode, cells_tPhase, cells_tU64, cells_tI64, cells_tStr, cells_tBool] at h8
    simp [cells_tKind, cells_tMode, cells_tPhase, cells_tU64, cells_tI64, cells_tStr, cells_tBool] at h9
    simp [cells_tKind, cells_tMode, cells_tPhase, cells_tU64, cells_tI64, cells_tStr, cells_tBool] at h10
    simp [cells_tKind, cells_tMode, cells_tPhase, cells_tU64, cells_tI64, cells_tStr, cells_tBool] at h11
    simp [cells_tKind, cells_tMode, cells_tPhase, cells_tU64, cells_tI64, cells_tStr, cells_tBool] at h12
    simp [cells_tKind, cells_tMode, cells_tPhase, cells_tU64, cells_tI64, cells_tStr, cells_tBool] at h13
    simp [cells_tKind, cells_tMode, cells_tPhase, cells_tU64, cells_tI64, cells_tStr, cells_tBool] at h14
    simp [cells_tKind, cells_tMode, cells_tPhase, cells_tU64, cells_tI64, cells_tStr, cells_tBool] at h15
    simp [cells_tKind, cells_tMode, cells_tPhase, cells_tU64, cells_tI64, cells_tStr, cells_tBool] at h16
    simp [cells_tKind, cells_tMode, cells_tPhase, cells_tU64, cells_tI64, cells_tStr, cells_tBool] at h17
    simp [cells_tKind, cells_tMode, cells_tPhase, cells_tU64, cells_tI64, cells_tStr, cells_tBool] at h18
    simp [cells_tKind, cells_tMode, cells_tPhase, cells_tU64, cells_tI64, cells_tStr, cells_tBool] at h19
    obtain ⟨v0, e0, _, w0⟩ := DataW.trod_int Tryz.underlying23 h0
    simp at e0
    obtain ⟨v1, e1, _, w1⟩ := DataW.trod_string Tryz.underlying9 h1
    simp at e1
    obtain ⟨v2, e2, _, w2⟩ := DataW.trod_int Tryz.underlying24 h2
    simp at e2
    obtain ⟨v3, e3, _, w3⟩ := DataW.trod_int Tryz.underlying24 h3
    simp at e3
    obtain ⟨v4, e4, _⟩ := DataW.trod_bool Tryz.underlying4 h4
    simp at e4
    obtain ⟨v5, e5, _⟩ := DataW.trod_bool Tryz.underlying4 h5
    simp at e5
    obtain ⟨v6, e6, _, w6⟩ := DataW.trod_string Tryz.underlying9 h6
    simp at e6
    obtain ⟨v7, e7, _, w7⟩ := DataW.trod_int Tryz.underlying2 h7
    simp at e7
    obtain ⟨v8, e8, _, w8⟩ := DataW.trod_int Tryz.underlying2 h8
    simp at e8
    obtain ⟨v9, e9, _, w9⟩ := DataW.trod_int Tryz.underlying25 h9
    simp at e9
    obtain ⟨v10, e10, _⟩ := DataW.trod_bool Tryz.underlying4 h10
    simp at e10
    obtain ⟨v11, e11, _⟩ := DataW.trod_bool Tryz.underlying4 h11
    simp at e11
    obtain ⟨v12, e12, _, w12⟩ := DataW.trod_string Tryz.underlying9 h12
    simp at e12
    obtain ⟨v13, e13, _, w13⟩ := DataW.trod_string Tryz.underlying9 h13
    simp at e13
    obtain ⟨v14, e14, _, w14⟩ := DataW.trod_string Tryz.underlying9 h14
    simp at e14
    obtain ⟨v15, e15, _, w15⟩ := DataW.trod_string Tryz.underlying9 h15
    simp at e15
    obtain ⟨v16, e16, _, w16⟩ := DataW.trod_string Tryz.underlying9 h16
    simp at e16
    obtain ⟨v17, e17, _, w17⟩ := DataW.trod_int Tryz.underlying26 h17
    simp at e17
    obtain ⟨v18, e18, _, w18⟩ := DataW.trod_int Tryz.underlying24 h18
    simp at e18
    obtain ⟨v19, e19, _, w19⟩ := DataW.trod_int Tryz.underlying24 h19
    simp at e19
    refine ⟨⟨v0, v1, v2, v3, v4, v5, v6, v7, v8, v9, v10, v11, v12, v13, v14, v15, v16, v17, v18, v19⟩, by simp [cellsO, e0, e1, e2, e3, e4, e5, e6, e7, e8, e9, e10, e11, e12, e13, e14, e15, e16, e17, e18, e19], ⟨w1, ?_⟩, ⟨w0, w2, w3, w7, w8, w9, w17, w18, w19⟩⟩
    intro s hs
    simp [textsO] at hs
    rcases hs with h | h | h | h | h | h <;> subst h <;> assumption

end Go.Proofs.YtpclhiookajiiaaGreat
