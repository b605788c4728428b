/- Layer 3 (object): what is left out, keys, their order, what must be whatever is asked. -/
import Derived.Test.YtmhnccbjnlmjpaaO13
import Derived.Test.YtmhnccbjnlmjpaaO11
namespace Go.Proofs.Ytmhnccbjnlmjpaa
open Go.RowKit
set_option linter.unusedVariables false
set_option linter.unusedSimpArgs false

theorem default_any (o : Obj) (w : World) (h : o.kind = 5 → o.name.toList = [] → o.volume.size + o.node.size + 1 ≤ 140737488355328) :
    Calls Try.prog 19 #[.agg (cellsO o)] w fun e w' => e = .returned (.agg (cellsO (defO o))) ∧ Below w.heap.size w w' := by
  by_cases k3 : o.kind = 3
  · exact def_3 o w k3
  by_cases k4 : o.kind = 4
  · exact def_4 o w k4
  by_cases k7 : o.kind = 7
  · exact def_7 o w k7
  by_cases k5 : o.kind = 5
  · by_cases hn : o.name.toList = []
    · exact def_5e o w k5 hn (h k5 hn)
    · exact def_5 o w k5 hn
  exact def_0 o w ⟨k3, k4, k5, k7⟩

set_option maxRecDepth 100000 in
set_option maxHeartbeats 4000000 in
theorem key_any (o : Obj) (w : World) :
    Calls Try.prog 20 #[.agg (cellsO o)] w fun e w' => e = .returned (.agg #[.int .u8 o.kind, .string o.name]) ∧ Below w.heap.size w w' := by
  have hS0 : ∀ k, (w.alloc (.cells (cellsO o) 27)).cell? ⟨w.heap.size, k, none⟩ = (cellsO o)[k]? := cells_all heap_alloc_eq
  go_enter Try.func20, Try.ntmps20
  go_wp2
  refine bodyPost_ret (v := .agg #[.int .u8 o.kind, .string o.name]) ?_ rfl ⟨rfl, (((Below.refl _ _).alloc (Nat.le_refl _) _).alloc (by simp) _)⟩
  simp [results, show Try.func20.results = #[.cell 2 37] from rfl, asAddr]
  go_simp

/-- keys' order -/
def lessK (k1 : Int) (n1 : ByteArray) (k2 : Int) (n2 : ByteArray) : Bool := if k1 = k2 then decide (Lib.compareBytes n1.data.toList n2.data.toList < 0) else decide (k1 < k2)

set_option maxRecDepth 100000 in
set_option maxHeartbeats 4000000 in
theorem less_any (k1 : Int) (n1 : ByteArray) (k2 : Int) (n2 : ByteArray) (w : World) :
    Calls Try.prog 21 #[.agg #[.int .u8 k1, .string n1], .agg #[.int .u8 k2, .string n2]] w fun e w' => e = .returned (.bool (lessK k1 n1 k2 n2)) ∧ Below w.heap.size w w' := by
  by_cases h : k1 = k2
  · subst h
    go_enter Try.func21, Try.ntmps21
    go_wp2_with fail
    refine (Try.strings_Compare n1 n2 _).mono ?_
    rintro e w1 ⟨rfl, rfl⟩
    generalize hd : Lib.compareBytes n1.data.toList n2.data.toList = d
    go_wp2
    go_ret
    exact ⟨ret_bool (by simp [lessK, hd]), (((Below.refl _ _).alloc (Nat.le_refl _) _).alloc (by simp) _)⟩
  · have j : (k1 == k2) = false := by simpa using h
    go_enter Try.func21, Try.ntmps21
    go_wp2
    go_ret
    exact ⟨ret_bool (by simp [lessK, h]), (((Below.refl _ _).alloc (Nat.le_refl _) _).alloc (by simp) _)⟩

theorem wpList_loadObjG {ops : Array Oper} {Q : Exit → Act → World → Prop} {o : Oper} {rest : List Oper} {a : Act} {w : World} (hw : Region.wanted o (yielded ops a.tmps) = true) (x : Operand) (hop : o.op = .load 27 x) (b : Nat) (hx : a.eval x = .pointer (some ⟨b, 0, none⟩))
    (p : Obj) (h : ∀ k, w.cell? ⟨b, k, none⟩ = (cellsO p)[k]?) (hK : wpList Try.prog ops Q rest (a.put o.dst (.agg (cellsO p))) w) : wpList Try.prog ops Q (o :: rest) a w :=
  BigFrame.wpList_want hw fun K hK' => by
    unfold Oper.wp
    rw [exec_loadObj p hop hx h]
    exact hK' _ _ hK

/-- the object that must be right whatever is asked -/
def liveO : Obj := ⟨3, ⟨#[97]⟩, 0, 0, false, false, ⟨#[102, 97, 115, 116]⟩, 10, 0, 0, false, false, noText, noText, noText, noText, noText, 0, 0, 0⟩
theorem liveO_cells : cellsO liveO = #[.int .u8 3, .string ⟨#[97]⟩, .int .u64 0, .int .u64 0, .bool false, .bool false, .string ⟨#[102, 97, 115, 116]⟩, .int .i64 10, .int .i64 0, .int .u8 0, .bool false, .bool false, .string noText, .string noText, .string noText, .string noText, .string noText, .int .u8 0, .int .u64 0, .int .u64 0] := by simp [cellsO, liveO]
theorem liveO_def : defO liveO = { liveO with hold := true, phase := 1, mode := 1 } := by simp [defO, liveO]
theorem live_right : rightB (defO liveO) = true := by rw [liveO_def]; decide +kernel
theorem live_user : userB (defO liveO) = true := by rw [liveO_def]; decide +kernel
theorem live_name : nameB ⟨#[97]⟩ = true := by decide +kernel
theorem live_attach : attachN ⟨#[118]⟩ ⟨#[110]⟩ = ⟨#[118, 47, 110]⟩ := by decide +kernel
theorem live_fits : (defO liveO).Fits := by
  rw [liveO_def]
  exact ⟨by decide +kernel, by decide +kernel⟩

set_option maxRecDepth 100000 in
set_option maxHeartbeats 4000000 in
theorem live_any (w : World) : Calls Try.prog 10 #[] w fun e w' => e = .returned (.bool true) ∧ Below w.heap.size w w' := by
  go_enter Try.func10, Try.ntmps10
  go_wp2_with fail
  rw [show (⟨#[]⟩ : ByteArray) = noText from rfl, ← liveO_cells]
  refine (default_any liveO _ (by simp [liveO])).mono ?_
  rintro e w1 ⟨rfl, hb1⟩
  have HF := Lib.hid live_fits
  have HR := Lib.hid live_right
  have HU := Lib.hid live_user
  have f1 : (defO liveO).hold = true := by rw [liveO_def]
  have f2 : (defO liveO).phase = 1 := by rw [liveO_def]
  have f3 : (defO liveO).mode = 1 := by rw [liveO_def]
  have HB1 := Lib.hid hb1
  clear hb1
  generalize defO liveO = D at *
  go_upto_region 2 with (refine wpList_storeObj rfl _ _ rfl w1.heap.size rfl _ rfl _ heap_alloc_eq rfl ?_)
  rw [Wset_alloc]
  have hS : ∀ k, (w1.alloc (.cells (cellsO D) 27)).cell? ⟨w1.heap.size, k, none⟩ = (cellsO D)[k]? := cells_all heap_alloc_eq
  have hlt : w1.heap.size < (w1.alloc (.cells (cellsO D) 27)).heap.size := by simp
  generalize hW : w1.alloc (.cells (cellsO D) 27) = W at *
  have HW := Lib.hid hW
  clear hW
  go_wp2_with (refine wpList_loadObjG rfl _ rfl _ rfl D hS ?_)
  refine (right_any D _ HF.out).mono ?_
  rintro e w2 ⟨rfl, hb2⟩
  have hS2 : ∀ k, w2.cell? ⟨w1.heap.size, k, none⟩ = (cellsO D)[k]? := fun k => (hb2.cell (p := ⟨w1.heap.size, k, none⟩) hlt).trans (hS k)
  have HB2 := Lib.hid hb2
  have hlt2 : w1.heap.size < w2.heap.size := Nat.lt_of_lt_of_le hlt hb2.size
  clear hb2
  rw [HR.out]
  go_wp2_with (refine wpList_loadObjG rfl _ rfl _ rfl D hS2 ?_)
  refine (user_any D _ HF.out).mono ?_
  rintro e w3 ⟨rfl, hb3⟩
  have HB3 := Lib.hid hb3
  clear hb3 hS hS2
  rw [HU.out]
  go_wp2_with fail
  refine (attach_any ⟨#[118]⟩ ⟨#[110]⟩ _ (by decide)).mono ?_
  rintro e w4 ⟨rfl, hb4⟩
  have HB4 := Lib.hid hb4
  clear hb4
  rw [live_attach]
  go_wp2_with fail
  refine (name_any ⟨#[97]⟩ _ (by decide)).mono ?_
  rintro e w5 ⟨rfl, rfl⟩
  rw [live_name]
  go_wp2
  go_ret
  refine ⟨rfl, ?_⟩
  have h1 : Below w.heap.size w W := by rw [← HW.out]; exact HB1.out.alloc HB1.out.size _
  have h2 := h1.trans (HB2.out.mono h1.size)
  have h3 := h2.trans (HB3.out.mono h2.size)
  exact h3.trans (HB4.out.mono h3.size)

end Go.Proofs.Ytmhnccbjnlmjpaa
