/- Layer 4 (codec): an object written by the program. -/
import Derived.Test.YtgplolfkfhhddaaW2
import Derived.Test.YtgplolfkfhhddaaV1
namespace Go.Proofs.Ytgplolfkfhhddaa
open Go.RowKit
set_option linter.unusedVariables false
set_option linter.unusedSimpArgs false

theorem cells_flags (o : Obj) : 0 ≤ (flagsE o : Int) ∧ (flagsE o : Int) < 256 := by
  have := (flags_back o.deleting o.hold o.keep o.wait).1
  unfold flagsE; omega

set_option maxRecDepth 100000 in
set_option maxHeartbeats 4000000 in
theorem wobject_any (o : Obj) (w0 w : World) (B p : Nat) (bs : Bs) (ht : o.Typed) (hr : rightB o = true) (hl : bs.length ≤ 1000) (h : WCur w0 w B p bs) :
    Calls Try.prog 21 #[.pointer (some ⟨p, 0, none⟩), .agg (cellsO o)] w fun e w' => e = .returned (.tuple #[]) ∧ WCur w0 w' B p (bs ++ objE o) := by
  have HLn := Lib.hid (piece_lens ht hr)
  obtain ⟨hn, hx⟩ := right_texts hr
  have x0 : o.name.size ≤ 1000 := by omega
  have x1 := hx o.cls (by simp [textsO]); have x2 := hx o.zone (by simp [textsO]); have x3 := hx o.node (by simp [textsO]); have x4 := hx o.claim (by simp [textsO]); have x5 := hx o.volume (by simp [textsO]); have x6 := hx o.source (by simp [textsO])
  have y1 : o.cls.size ≤ 1000 := by omega
  have y5 : o.zone.size ≤ 1000 ∧ o.node.size ≤ 1000 ∧ o.claim.size ≤ 1000 ∧ o.volume.size ≤ 1000 ∧ o.source.size ≤ 1000 := by omega
  obtain ⟨hs, hg⟩ := right_sizes hr
  have z1 : o.size % 18446744073709551616 = o.size := by omega
  have z2 : o.got % 18446744073709551616 = o.got := by omega
  have s1 : 0 ≤ o.size ∧ o.size < 18446744073709551616 := by omega
  have s2 : 0 ≤ o.got ∧ o.got < 18446744073709551616 := by omega
  obtain ⟨t1, t2, t3, t4, t5, t6, t7⟩ := ht
  have HT := Lib.hid (And.intro t1 (And.intro t2 (And.intro t3 (And.intro t4 (And.intro t5 (And.intro t6 (And.intro t7 (And.intro s1 s2))))))))
  have HY := Lib.hid (And.intro x0 (And.intro y1 y5))
  obtain ⟨F, hF⟩ : ∃ F, F = flagsE o := ⟨_, rfl⟩
  have hFr := cells_flags o
  rw [← hF] at hFr
  have HF := Lib.hid hFr
  have HFe := Lib.hid hF
  clear hF hFr
  have H0 := Lib.hid h
  have HZ1 := Lib.hid z1
  have HZ2 := Lib.hid z2
  clear hn hx x0 x1 x2 x3 x4 x5 x6 y1 y5 hs hg s1 s2 t1 t2 t3 t4 t5 t6 t7 hr h
  have hbp : w.heap.size ≠ p := H0.out.ne.1
  have HB := Lib.hid (show (w.alloc (.cells (cellsO o) 27)).heap[w.heap.size]? = some (.cells (cellsO o) 27 (0, 0)) by exact heap_alloc_eq)
  have HX := Lib.hid (H0.out.alloc (.cells (cellsO o) 27)).fresh
  have hS := HX.out.box HB.out hbp
  have HP := Lib.hid hbp
  clear hbp
  go_enter Try.func21, Try.ntmps21
  go_wp2_with (first
    | (go_at_call 35; refine (wbyte_any _ (by first | with_reducible exact HT.out.1 | with_reducible exact HF.out | with_reducible exact HT.out.2.2.2.1 | with_reducible exact HT.out.2.2.2.2.1) _ _ B p _ (by have := HLn.out; (try simp only [List.length_append, List.length_cons, List.length_nil]); omega) HX.out).mono ?_; rintro e w2 ⟨rfl, hx⟩; have HX := Lib.hid hx; clear hx; have hS := HX.out.box HB.out HP.out)
    | (go_at_call 34; refine (wnumber_int _ (by first | with_reducible exact HT.out.2.1 | with_reducible exact HT.out.2.2.1 | with_reducible exact HT.out.2.2.2.2.2.1 | with_reducible exact HT.out.2.2.2.2.2.2.1 | with_reducible exact HT.out.2.2.2.2.2.2.2.1 | with_reducible exact HT.out.2.2.2.2.2.2.2.2) _ _ B p _ (by have := HLn.out; (try simp only [List.length_append, List.length_cons, List.length_nil]); omega) HX.out).mono ?_; rintro e w2 ⟨rfl, hx⟩; have HX := Lib.hid hx; clear hx; have hS := HX.out.box HB.out HP.out)
    | (go_at_call 51; with_reducible show Calls _ _ #[_, .slice _ 1 1] _ _; refine (wtext_one _ (by first | with_reducible exact HY.out.1 | with_reducible exact HY.out.2.1) _ _ B p _ (by have := HLn.out; (try simp only [List.length_append, List.length_cons, List.length_nil]); omega) HX.out).mono ?_; rintro e w2 ⟨rfl, hx⟩; have HX := Lib.hid hx; clear hx; have hS := HX.out.box HB.out HP.out)
    | (go_at_call 51; with_reducible show Calls _ _ #[_, .slice _ 5 5] _ _; refine (wtext_five _ _ _ _ _ HY.out.2.2 _ _ B p _ (by have := HLn.out; (try simp only [List.length_append, List.length_cons, List.length_nil]); omega) HX.out).mono ?_; rintro e w2 ⟨rfl, hx⟩; have HX := Lib.hid hx; clear hx; have hS := HX.out.box HB.out HP.out)
    | (go_at_call 36; refine (flags_four o _).mono ?_; rw [← HFe.out]; rintro e w3 ⟨rfl, rfl⟩; have hx := HX.out.alloc (.cells #[.bool o.deleting, .bool o.hold, .bool o.keep, .bool o.wait] 4); have HX := Lib.hid hx; clear hx; have hS := HX.out.box HB.out HP.out))
  exact bodyPost_end (results_none rfl _ _ _) rfl ⟨rfl, by have := (H0.out.alloc _).trans HX.out; rw [HFe.out] at this; simpa only [objE, List.append_assoc, u8_ofNat] using this⟩

end Go.Proofs.Ytgplolfkfhhddaa
