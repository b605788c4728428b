/- Layer 7 (watch): WatchNone: the walk; its argument opened. -/
import Derived.Test.YtpclhiookajiiaaT2
import Derived.Test.YtpclhiookajiiaaOpen
namespace Go.Proofs.Ytpclhiookajiiaa
open Go.RowKit
set_option linter.unusedVariables false
set_option linter.unusedSimpArgs false

open Go.ChangeShapes Go.WideShapes Go.ChangeAt

theorem cellsD7 : Try.prog.cellsOf 65 = 5 := by kernel_rfl
theorem cellsInt : Try.prog.cellsOf 3 = 1 := by kernel_rfl
theorem cellsBool : Try.prog.cellsOf 4 = 1 := by kernel_rfl
theorem cellsEvs : Try.prog.cellsOf 46 = 1 := by kernel_rfl
theorem cellsObjs : Try.prog.cellsOf 49 = 1 := by kernel_rfl
theorem cellsU64 : Try.prog.cellsOf 27 = 1 := by kernel_rfl
set_option maxRecDepth 100000 in
theorem open_deed7 {H : Type} {enc : TypeId × Value → H} {w : World} {held : Bool} {fuel : Nat} {cs : List Value} {x : DataW H × List MemPlace}
    (h : DataW.trod enc Try.prog w 0 (fun _ => true) held fuel 65 cs = some x) : ∃ (kind : Int) (fits : Bool) (a b : Option Addr) (n c m d : Nat) (ver : Int), cs = [.int .i64 kind, .bool fits, .slice a n c, .slice b m d, .int .u64 ver] := by
  obtain ⟨hl, n, xs, hm⟩ := trod_struct Try.underlying65 h
  rw [cellsD7] at hl
  match cs, hl with
  | [a, b, c, d, e], _ =>
    obtain ⟨y0, h0⟩ := mapM_at hm 0 (by simp)
    obtain ⟨y1, h1⟩ := mapM_at hm 1 (by simp)
    obtain ⟨y2, h2⟩ := mapM_at hm 2 (by simp)
    obtain ⟨y3, h3⟩ := mapM_at hm 3 (by simp)
    obtain ⟨y4, h4⟩ := mapM_at hm 4 (by simp)
    simp [cellsInt, cellsBool, cellsEvs, cellsObjs, cellsU64] at h0 h1 h2 h3 h4
    obtain ⟨i, e0, _, w0⟩ := DataW.trod_int Try.underlying3 h0
    obtain ⟨g, e1, _⟩ := DataW.trod_bool Try.underlying4 h1
    have e2 : ∃ a n k, c = .slice a n k := by
      rcases Go.Deep.open_slice Try.underlying46 h2 with ⟨e, _⟩ | ⟨a, len, cap, m, n, D, Pl, e, _⟩
      · exact ⟨_, _, _, by simpa using e⟩
      · exact ⟨_, _, _, by simpa using e⟩
    have e3 : ∃ a n k, d = .slice a n k := by
      rcases Go.Deep.open_slice Try.underlying49 h3 with ⟨e, _⟩ | ⟨a, len, cap, m, n, D, Pl, e, _⟩
      · exact ⟨_, _, _, by simpa using e⟩
      · exact ⟨_, _, _, by simpa using e⟩
    obtain ⟨k, e4, _, w4⟩ := DataW.trod_int Try.underlying27 h4
    obtain ⟨a2, n2, k2, rfl⟩ := e2
    obtain ⟨a3, n3, k3, rfl⟩ := e3
    simp at e0 e1 e4
    exact ⟨i, g, a2, a3, n2, k2, n3, k3, k, by rw [e0, e1, e4]⟩

set_option maxRecDepth 100000 in
set_option maxHeartbeats 4000000 in
theorem none_walk (kind : Int) (fits : Bool) (a b : Option Addr) (n c m d : Nat) (ver : Int) (k : GKey) (w : World) :
    Calls Try.prog 5 #[.agg #[.int .i64 kind, .bool fits, .slice a n c, .slice b m d, .int .u64 ver], .agg #[.int .u8 k.kind, .string k.name]] w fun e w' => e = .returned (.bool true) ∧ Below w.heap.size w w' := by
  have hZ := objZ_cells
  simp only [noText] at hZ
  have HZ := Lib.hid hZ
  clear hZ
  have HB0 := Lib.hid (((Below.refl w.heap.size w).alloc (Nat.le_refl _) (.cells #[.int .i64 kind, .bool fits, .slice a n c, .slice b m d, .int .u64 ver] 65)).alloc (by simp) (.cells #[.int .u8 k.kind, .string k.name] 45))
  go_enter Try.func5, Try.ntmps5
  go_wp2_with (first
    | (go_at_call 21; refine (ctake_nil _ _ _ _).mono ?_; rintro e w' ⟨rfl, rfl⟩)
    | (go_at_call 24; refine (creset_nil _ _ _ _ _).mono ?_; rintro e w' ⟨rfl, rfl⟩)
    | fail)
  refine (cget_nil _ _ _).mono ?_
  rintro e w1 ⟨rfl, hb⟩
  have HB1 := Lib.hid (HB0.out.trans (hb.mono HB0.out.size))
  clear hb HB0
  obtain ⟨W2, hW2⟩ : ∃ W, W = Wset (w1.alloc (.cells (cellsO objZ) 31)) w1.heap.size (.cells (cellsO objZ) 31 (0, 0)) := ⟨_, rfl⟩
  have hbn := below_new w1 (.cells (cellsO objZ) 31) (.cells (cellsO objZ) 31 (0, 0))
  have hnb := new_box w1 (.cells (cellsO objZ) 31) (cellsO objZ) 31
  rw [← hW2] at hbn hnb
  have hq : (w1.alloc (.cells (cellsO objZ) 31)).heap[w1.heap.size]? = some (.cells (cellsO objZ) 31 (0, 0)) := heap_alloc_eq
  conv at hq => lhs; rw [HZ.out]
  have HB2 := Lib.hid (HB1.out.trans (hbn.mono HB1.out.size))
  have HK := Lib.hid hnb
  have HQ := Lib.hid hq
  have HW := Lib.hid hW2
  clear hbn hnb hq hW2 HB1
  go_wp2_with (first
    | (refine wpList_storeObj rfl _ _ rfl w1.heap.size rfl objZ rfl _ HQ.out rfl ?_; rw [← HZ.out, ← HW.out])
    | (go_at_call 26; refine (clive_any _).mono ?_; rintro e w3 ⟨rfl, hb⟩; have HB3 := Lib.hid (HB2.out.trans (hb.mono HB2.out.size)); have HK3 := Lib.hid ((hb.block _ (heap_lt HK.out)).trans HK.out); clear hb HB2 HK)
    | refine wpList_loadObjG (by first | rfl | (simp [Region.wanted, yielded]; done)) _ rfl w1.heap.size rfl objZ (cells_all HK3.out) ?_
    | refine wpList_eqlObjG (by first | rfl | (simp [Region.wanted, yielded]; done)) _ _ _ rfl objZ objZ rfl (by first | rfl | exact congrArg Value.agg HZ.out.symm) ?_
    | (go_at_call 28; refine (call_nil _).mono ?_; rintro e w4 ⟨rfl, hb⟩; have HB4 := Lib.hid (HB3.out.trans (hb.mono HB3.out.size)); clear hb HB3)
    | (go_at_call 23; refine (cversion_nil _).mono ?_; rintro e w5 ⟨rfl, rfl⟩)
    | (go_at_call 30; refine (cfork_nil _).mono ?_; rintro e w6 ⟨rfl, rfl⟩)
    | fail)
  go_ret
  exact ⟨rfl, HB4.out⟩

end Go.Proofs.Ytpclhiookajiiaa
