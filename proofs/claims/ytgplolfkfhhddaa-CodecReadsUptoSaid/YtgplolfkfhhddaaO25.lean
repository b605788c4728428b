/- Layer 3 (object): the document's answer on what is right. -/
import Derived.Test.YtgplolfkfhhddaaE24
import Derived.Deep.Cut
import Derived.Deep.CutRange
namespace Go.Proofs.Ytgplolfkfhhddaa
open Go.RowKit
set_option linter.unusedVariables false
set_option linter.unusedSimpArgs false
open Go.ChangeShapes Go.WideShapes Go.ChangeAt

theorem attachR_any (v n : ByteArray) (w : World) (hs : v.size + n.size + 1 ≤ 1048577) : Calls Try.prog 30 #[.string v, .string n] w fun e w' => e = .returned (.string (attachN v n)) ∧ w' = w := by
  have he : v ++ (⟨#[47]⟩ : ByteArray) ++ n = attachN v n := by
    apply ByteArray.ext
    apply Array.toList_inj.1
    simp [attachN]
  have HE := Lib.hid he
  clear he
  go_enter Try.func30, Try.ntmps30
  go_wp2
  go_ret
  exact ⟨congrArg (fun x => Ending.returned (Value.string x)) HE.out, rfl⟩

theorem slashIn_good (s : ByteArray) (h : ∀ j (hj : j < s.size), s[j].toNat ≠ 47) : slashIn s = false := by
  cases hd : slashIn s with
  | false => rfl
  | true =>
    exfalso
    have h1 : (0 : Int) ≤ Lib.indexByte s.data.toList 47 := by simpa [slashIn] using hd
    have h2 : Lib.indexByte s.data.toList 47 = ((Lib.indexByte s.data.toList 47).toNat : Int) := by omega
    have h3 := (Lib.indexByte_some h2).1
    generalize (Lib.indexByte s.data.toList 47).toNat = j at h3
    obtain ⟨hj, e⟩ := List.getElem?_eq_some_iff.1 h3
    refine h j (by simpa using hj) ?_
    have e2 : s[j]'(by simpa using hj) = 47 := by rw [ByteArray.getElem_eq_getElem_data]; exact e
    rw [e2]; rfl

set_option maxRecDepth 100000 in
set_option maxHeartbeats 1000000 in
theorem plainR_any (s : ByteArray) (w : World) (hs : s.size ≤ maxLen) : Calls Try.prog 29 #[.string s] w fun e w' => e = .returned (.bool (!slashIn s)) ∧ w' = w := by
  unfold maxLen at hs
  go_enter Try.func29, Try.ntmps29
  go_wp2
  go_loop [3] (fun i => ∃ k : Nat, k ≤ s.size ∧ i = .int .i64 k ∧ Hid (∀ j (hj : j < s.size), j < k → s[j].toNat ≠ 47)) (fun i => s.size - (intOf i).toNat)
  case atStart => exact ⟨0, Nat.zero_le _, rfl, fun j hj h => absurd h (by omega)⟩
  case round =>
    obtain ⟨k, hk, rfl, hgood⟩ := hrel
    by_cases hlt : k < s.size
    · by_cases hc : s[k].toNat = 47
      · have hn := slashIn_bad s k hlt hc
        have HN := Lib.hid hn
        have hu := s[k].toNat_lt
        clear hgood hn
        go_wp2
        all_goals first | (go_ret; exact ⟨ret_bool (by simp [HN.out]), rfl⟩) | (exfalso; rename_i hx; simp at hx; omega)
      · have hnext : Hid (∀ j (hj : j < s.size), j < k + 1 → s[j].toNat ≠ 47) := fun j hj h => by
          by_cases e : j = k
          · subst e; exact hc
          · exact hgood.out j hj (by omega)
        have hu := s[k].toNat_lt
        clear hgood
        go_wp2
        all_goals first | (exfalso; rename_i hx; simp at hx; omega) | skip
        all_goals first
          | (go_round
             case rel => exact ⟨k + 1, by omega, by go_num, hnext⟩
             case measure => simp [intOf]; omega)
    · have hend := slashIn_good s (fun j hj => hgood.out j hj (by omega))
      have HE := Lib.hid hend
      clear hend hgood
      go_wp2
      go_ret
      exact ⟨ret_bool (by simp [HE.out]), rfl⟩
--PRE

abbrev maybeB (s : ByteArray) : Bool := decide (s.size = 0) || nameB s
theorem rightB_form {o : Obj} : formB o = (nameB o.name && decide (o = bareR o) && namesB (textsO o) && (decide (0 ≤ o.size) && decide (o.size ≤ 1125899906842624)) && (decide (0 ≤ o.got) && decide (o.got ≤ 1125899906842624))) := by
  unfold formB sizeB
  rw [show decide (restO o = bareO o.kind) = decide (o = bareR o) from decide_eq_decide.2 (bareR_iff o).symm]

/-- the object's box -/
structure BoxO (w W : World) (o : Obj) : Prop where
  c : ∀ i, W.cell? ⟨w.heap.size, i, none⟩ = (cellsO o)[i]?
  s : w.heap.size < W.heap.size
  b : Below w.heap.size w W
theorem BoxO.next {w W W' : World} {o : Obj} (h : BoxO w W o) (hb : Below W.heap.size W W') : BoxO w W' o :=
  ⟨fun k => (hb.cell (p := ⟨w.heap.size, k, none⟩) h.s).trans (h.c k), Nat.lt_of_lt_of_le h.s hb.size, h.b.trans (hb.mono h.b.size)⟩


end Go.Proofs.Ytgplolfkfhhddaa
