/- Layer 5 (blocks): a deed on both logs. -/
import Derived.Test.YtmkfiecdgghceaaC8
namespace Go.Proofs.Ytmkfiecdgghceaa
open Go.RowKit
set_option linter.unusedVariables false
set_option linter.unusedSimpArgs false

def DoPost (w : World) (B p q most : Nat) (e : Ending) (w' : World) : Prop := e = .returned (.bool true) ∧ (∃ n bs last, Sim w' B p q n bs last most) ∧ Keeps (fun i => B ≤ i) w w'

theorem cleanPost_log {w : World} {B p : Nat} {v : Value} {rs : List Bs} {most : Nat} {e : Ending} {w' : World} (hB : B ≤ p) (h : CleanPost w B p v rs most e w') : e = .returned (.int .i64 0) ∧ (∃ u n', (encs rs 0).length = n' * 64 ∧ LogAt w' B p u n' (encs rs 0) n' most) ∧ Keeps (fun i => i = p ∨ v.ownBlock = some i) w w' := by
  obtain ⟨h1, u, n', h2, h3, _, h4⟩ := h
  exact ⟨h1, ⟨u, n', h2, h3⟩, h4.mono fun i _ e => .inl e⟩

set_option maxRecDepth 100000 in
set_option maxHeartbeats 4000000 in
theorem do_0s (w : World) (B p q n : Nat) (bs : Bs) (last most : Nat) (v u : Value) (hL : LogAt w B p v n bs last most) (hR : RefAt w B q u bs (last * 64) most) (kind keep torn : Int) (a : Option Addr) (c : Nat) (l : Bs) (hx : ArgB w B (.slice a l.length c) l) (hxl : l.length ≤ 9223372036854775807) (hk : keep ≤ 9223372036854775807) (hlen : l.length ≤ 200) (hkind : kind = 0) :
    Calls Try.prog 30 #[.pointer (some ⟨p, 0, none⟩), .pointer (some ⟨q, 0, none⟩), .agg #[.int .i64 kind, .int .i64 keep, .int .i64 torn, .slice a l.length c]] w (DoPost w B p q most) := by
  obtain ⟨rs, hrs⟩ := parsed_exists bs
  have HRS := Lib.hid hrs
  have hOut : ¬ (w.heap.size = p ∨ v.ownBlock = some w.heap.size) := fun e => by rcases e with e | e; exact absurd hL.lt.1 (by omega); exact absurd (hL.lt.2 _ e).2 (by omega)
  have hOutR : ¬ (w.heap.size = q ∨ u.ownBlock = some w.heap.size) := fun e => by rcases e with e | e; exact absurd hR.lt.1 (by omega); exact absurd (hR.lt.2 _ e).2 (by omega)
  have hB : B ≤ w.heap.size := Nat.le_of_lt (Nat.lt_of_le_of_lt hL.base hL.lt.1)
  have hb0 : Below w.heap.size w (w.alloc (.cells #[.int .i64 kind, .int .i64 keep, .int .i64 torn, .slice a l.length c] 30)) := (Below.refl _ w).alloc (Nat.le_refl _) _
  have HK0 := Lib.hid (show Keeps (fun i => B ≤ i) w (w.alloc (.cells #[.int .i64 kind, .int .i64 keep, .int .i64 torn, .slice a l.length c] 30)) from Keeps.of_below hb0)
  have HL := Lib.hid (hL.below hb0)
  have HR := Lib.hid (hR.below hb0)
  have HX := Lib.hid (hx.kept HK0.out)
  have hlc : l.length ≤ c ∧ c ≤ maxLen := by
    obtain ⟨a', c', hv, h1, h2⟩ := hx.lv
    simp only [Value.slice.injEq, true_and] at hv
    omega
  obtain ⟨hlc, hcm⟩ := hlc
  have hnl := hL.row.1
  have HNL := Lib.hid hnl
  clear hL hR hx hb0 hrs hnl
  have t1 : ¬ (200 : Int) < (l.length : Int) := by omega
  subst hkind
  have HX1 := Lib.hid (show ArgB (w.alloc (.cells #[.int .i64 0, .int .i64 keep, .int .i64 torn, .slice a l.length c] 30)) B (.slice a l.length c) l from HX.out)
  have hl1 : (l).length ≤ maxLen := by unfold maxLen; first | omega | (rw [List.length_take]; omega)
  clear hlen
  go_enter Try.func30, Try.ntmps30
  go_wp2_with (first | (go_at_call 17; refine (append_gen _ B p v n bs last most rs HL.out HRS.out _ l HX1.out.isB hl1).mono ?_; rintro e w1 ⟨rfl, ⟨v1, hl1⟩, hk1⟩; have HL1 := Lib.hid hl1; have HK1 := Lib.hid hk1; have HR1 := Lib.hid (HR.out.keptL HL.out hk1); have HX2 := Lib.hid (HX1.out.kept (HL.out.keepB hk1)); clear hl1 hk1) | (go_at_call 39; refine (appendR_gen _ B q u n bs (last * 64) most rs HR1.out HNL.out HRS.out _ l HX2.out.isB hl1).mono ?_; rintro e w2 ⟨rfl, ⟨u2, hr2⟩, hk2⟩; have HR2 := Lib.hid hr2; have HK2 := Lib.hid hk2; clear hr2 hk2))

  go_ret
  exact ⟨rfl, ⟨_, _, _, _, _, HL1.out.keptR HR1.out HK2.out, HR2.out⟩, (HK0.out.trans (HL.out.keepB HK1.out)).trans (HR1.out.keepB HK2.out)⟩

set_option maxRecDepth 100000 in
set_option maxHeartbeats 4000000 in
theorem do_0m (w : World) (B p q n : Nat) (bs : Bs) (last most : Nat) (v u : Value) (hL : LogAt w B p v n bs last most) (hR : RefAt w B q u bs (last * 64) most) (kind keep torn : Int) (a : Option Addr) (c : Nat) (l : Bs) (hx : ArgB w B (.slice a l.length c) l) (hxl : l.length ≤ 9223372036854775807) (hk : keep ≤ 9223372036854775807) (hlen : 200 < l.length ∧ l.length ≤ 1024) (hkind : kind = 0) :
    Calls Try.prog 30 #[.pointer (some ⟨p, 0, none⟩), .pointer (some ⟨q, 0, none⟩), .agg #[.int .i64 kind, .int .i64 keep, .int .i64 torn, .slice a l.length c]] w (DoPost w B p q most) := by
  obtain ⟨rs, hrs⟩ := parsed_exists bs
  have HRS := Lib.hid hrs
  have hOut : ¬ (w.heap.size = p ∨ v.ownBlock = some w.heap.size) := fun e => by rcases e with e | e; exact absurd hL.lt.1 (by omega); exact absurd (hL.lt.2 _ e).2 (by omega)
  have hOutR : ¬ (w.heap.size = q ∨ u.ownBlock = some w.heap.size) := fun e => by rcases e with e | e; exact absurd hR.lt.1 (by omega); exact absurd (hR.lt.2 _ e).2 (by omega)
  have hB : B ≤ w.heap.size := Nat.le_of_lt (Nat.lt_of_le_of_lt hL.base hL.lt.1)
  have hb0 : Below w.heap.size w (w.alloc (.cells #[.int .i64 kind, .int .i64 keep, .int .i64 torn, .slice a l.length c] 30)) := (Below.refl _ w).alloc (Nat.le_refl _) _
  have HK0 := Lib.hid (show Keeps (fun i => B ≤ i) w (w.alloc (.cells #[.int .i64 kind, .int .i64 keep, .int .i64 torn, .slice a l.length c] 30)) from Keeps.of_below hb0)
  have HL := Lib.hid (hL.below hb0)
  have HR := Lib.hid (hR.below hb0)
  have HX := Lib.hid (hx.kept HK0.out)
  have hlc : l.length ≤ c ∧ c ≤ maxLen := by
    obtain ⟨a', c', hv, h1, h2⟩ := hx.lv
    simp only [Value.slice.injEq, true_and] at hv
    omega
  obtain ⟨hlc, hcm⟩ := hlc
  have hnl := hL.row.1
  have HNL := Lib.hid hnl
  clear hL hR hx hb0 hrs hnl
  have t1 : (200 : Int) < (l.length : Int) := by omega
  have t2 : (l.length : Int) ≤ 1024 := by omega
  have t3 : 200 ≤ c := by omega
  subst hkind
  have HX1 := Lib.hid (show ArgB (w.alloc (.cells #[.int .i64 0, .int .i64 keep, .int .i64 torn, .slice a l.length c] 30)) B (.slice a 200 c) (l.take 200) from (HX.out.take (by omega)))
  have hl1 : ((l.take 200)).length ≤ maxLen := by unfold maxLen; first | omega | (rw [List.length_take]; omega)
  clear hlen
  go_enter Try.func30, Try.ntmps30
  go_wp2_with (first | (go_at_call 17; refine (append_gen _ B p v n bs last most rs HL.out HRS.out _ (l.take 200) HX1.out.isB hl1).mono ?_; rintro e w1 ⟨rfl, ⟨v1, hl1⟩, hk1⟩; have HL1 := Lib.hid hl1; have HK1 := Lib.hid hk1; have HR1 := Lib.hid (HR.out.keptL HL.out hk1); have HX2 := Lib.hid (HX1.out.kept (HL.out.keepB hk1)); clear hl1 hk1) | (go_at_call 39; refine (appendR_gen _ B q u n bs (last * 64) most rs HR1.out HNL.out HRS.out _ (l.take 200) HX2.out.isB hl1).mono ?_; rintro e w2 ⟨rfl, ⟨u2, hr2⟩, hk2⟩; have HR2 := Lib.hid hr2; have HK2 := Lib.hid hk2; clear hr2 hk2))

  go_ret
  exact ⟨rfl, ⟨_, _, _, _, _, HL1.out.keptR HR1.out HK2.out, HR2.out⟩, (HK0.out.trans (HL.out.keepB HK1.out)).trans (HR1.out.keepB HK2.out)⟩

set_option maxRecDepth 100000 in
set_option maxHeartbeats 4000000 in
theorem do_0l (w : World) (B p q n : Nat) (bs : Bs) (last most : Nat) (v u : Value) (hL : LogAt w B p v n bs last most) (hR : RefAt w B q u bs (last * 64) most) (kind keep torn : Int) (a : Option Addr) (c : Nat) (l : Bs) (hx : ArgB w B (.slice a l.length c) l) (hxl : l.length ≤ 9223372036854775807) (hk : keep ≤ 9223372036854775807) (hlen : 1024 < l.length) (hkind : kind = 0) :
    Calls Try.prog 30 #[.pointer (some ⟨p, 0, none⟩), .pointer (some ⟨q, 0, none⟩), .agg #[.int .i64 kind, .int .i64 keep, .int .i64 torn, .slice a l.length c]] w (DoPost w B p q most) := by
  obtain ⟨rs, hrs⟩ := parsed_exists bs
  have HRS := Lib.hid hrs
  have hOut : ¬ (w.heap.size = p ∨ v.ownBlock = some w.heap.size) := fun e => by rcases e with e | e; exact absurd hL.lt.1 (by omega); exact absurd (hL.lt.2 _ e).2 (by omega)
  have hOutR : ¬ (w.heap.size = q ∨ u.ownBlock = some w.heap.size) := fun e => by rcases e with e | e; exact absurd hR.lt.1 (by omega); exact absurd (hR.lt.2 _ e).2 (by omega)
  have hB : B ≤ w.heap.size := Nat.le_of_lt (Nat.lt_of_le_of_lt hL.base hL.lt.1)
  have hb0 : Below w.heap.size w (w.alloc (.cells #[.int .i64 kind, .int .i64 keep, .int .i64 torn, .slice a l.length c] 30)) := (Below.refl _ w).alloc (Nat.le_refl _) _
  have HK0 := Lib.hid (show Keeps (fun i => B ≤ i) w (w.alloc (.cells #[.int .i64 kind, .int .i64 keep, .int .i64 torn, .slice a l.length c] 30)) from Keeps.of_below hb0)
  have HL := Lib.hid (hL.below hb0)
  have HR := Lib.hid (hR.below hb0)
  have HX := Lib.hid (hx.kept HK0.out)
  have hlc : l.length ≤ c ∧ c ≤ maxLen := by
    obtain ⟨a', c', hv, h1, h2⟩ := hx.lv
    simp only [Value.slice.injEq, true_and] at hv
    omega
  obtain ⟨hlc, hcm⟩ := hlc
  have hnl := hL.row.1
  have HNL := Lib.hid hnl
  clear hL hR hx hb0 hrs hnl
  have t1 : (200 : Int) < (l.length : Int) := by omega
  have t2 : ¬ (l.length : Int) ≤ 1024 := by omega
  subst hkind
  have HX1 := Lib.hid (show ArgB (w.alloc (.cells #[.int .i64 0, .int .i64 keep, .int .i64 torn, .slice a l.length c] 30)) B (.slice a l.length c) l from HX.out)
  have hl1 : (l).length ≤ maxLen := by unfold maxLen; first | omega | (rw [List.length_take]; omega)
  clear hlen
  go_enter Try.func30, Try.ntmps30
  go_wp2_with (first | (go_at_call 17; refine (append_gen _ B p v n bs last most rs HL.out HRS.out _ l HX1.out.isB hl1).mono ?_; rintro e w1 ⟨rfl, ⟨v1, hl1⟩, hk1⟩; have HL1 := Lib.hid hl1; have HK1 := Lib.hid hk1; have HR1 := Lib.hid (HR.out.keptL HL.out hk1); have HX2 := Lib.hid (HX1.out.kept (HL.out.keepB hk1)); clear hl1 hk1) | (go_at_call 39; refine (appendR_gen _ B q u n bs (last * 64) most rs HR1.out HNL.out HRS.out _ l HX2.out.isB hl1).mono ?_; rintro e w2 ⟨rfl, ⟨u2, hr2⟩, hk2⟩; have HR2 := Lib.hid hr2; have HK2 := Lib.hid hk2; clear hr2 hk2))

  go_ret
  exact ⟨rfl, ⟨_, _, _, _, _, HL1.out.keptR HR1.out HK2.out, HR2.out⟩, (HK0.out.trans (HL.out.keepB HK1.out)).trans (HR1.out.keepB HK2.out)⟩

set_option maxRecDepth 100000 in
set_option maxHeartbeats 4000000 in
theorem do_1s (w : World) (B p q n : Nat) (bs : Bs) (last most : Nat) (v u : Value) (hL : LogAt w B p v n bs last most) (hR : RefAt w B q u bs (last * 64) most) (kind keep torn : Int) (a : Option Addr) (c : Nat) (l : Bs) (hx : ArgB w B (.slice a l.length c) l) (hxl : l.length ≤ 9223372036854775807) (hk : keep ≤ 9223372036854775807) (hlen : l.length ≤ 200) (hkind : kind = 1) :
    Calls Try.prog 30 #[.pointer (some ⟨p, 0, none⟩), .pointer (some ⟨q, 0, none⟩), .agg #[.int .i64 kind, .int .i64 keep, .int .i64 torn, .slice a l.length c]] w (DoPost w B p q most) := by
  obtain ⟨rs, hrs⟩ := parsed_exists bs
  have HRS := Lib.hid hrs
  have hOut : ¬ (w.heap.size = p ∨ v.ownBlock = some w.heap.size) := fun e => by rcases e with e | e; exact absurd hL.lt.1 (by omega); exact absurd (hL.lt.2 _ e).2 (by omega)
  have hOutR : ¬ (w.heap.size = q ∨ u.ownBlock = some w.heap.size) := fun e => by rcases e with e | e; exact absurd hR.lt.1 (by omega); exact absurd (hR.lt.2 _ e).2 (by omega)
  have hB : B ≤ w.heap.size := Nat.le_of_lt (Nat.lt_of_le_of_lt hL.base hL.lt.1)
  have hb0 : Below w.heap.size w (w.alloc (.cells #[.int .i64 kind, .int .i64 keep, .int .i64 torn, .slice a l.length c] 30)) := (Below.refl _ w).alloc (Nat.le_refl _) _
  have HK0 := Lib.hid (show Keeps (fun i => B ≤ i) w (w.alloc (.cells #[.int .i64 kind, .int .i64 keep, .int .i64 torn, .slice a l.length c] 30)) from Keeps.of_below hb0)
  have HL := Lib.hid (hL.below hb0)
  have HR := Lib.hid (hR.below hb0)
  have HX := Lib.hid (hx.kept HK0.out)
  have hlc : l.length ≤ c ∧ c ≤ maxLen := by
    obtain ⟨a', c', hv, h1, h2⟩ := hx.lv
    simp only [Value.slice.injEq, true_and] at hv
    omega
  obtain ⟨hlc, hcm⟩ := hlc
  have hnl := hL.row.1
  have HNL := Lib.hid hnl
  clear hL hR hx hb0 hrs hnl
  have t1 : ¬ (200 : Int) < (l.length : Int) := by omega
  clear hlen
  subst hkind
  go_enter Try.func30, Try.ntmps30
  go_wp2_with (first | (go_at_call 18; refine (sync_any _ B p v n bs last most HL.out).mono ?_; rintro e w1 ⟨rfl, hl1, hk1⟩; have HL1 := Lib.hid hl1; have HK1 := Lib.hid (show Keeps (fun i => i = p ∨ v.ownBlock = some i) _ w1 from hk1.mono fun i _ e => .inl e); have HR1 := Lib.hid (HR.out.keptL HL.out HK1.out); clear hl1 hk1) | (go_at_call 40; refine (syncR_any _ B q u bs (last * 64) most HR1.out).mono ?_; rintro e w2 ⟨rfl, hr2, hk2⟩; rw [HNL.out] at hr2; have HR2 := Lib.hid hr2; have HK2 := Lib.hid (show Keeps (fun i => i = q ∨ u.ownBlock = some i) _ w2 from hk2.mono fun i _ e => .inl e); clear hr2 hk2))

  go_ret
  exact ⟨rfl, ⟨_, _, _, _, _, HL1.out.keptR HR1.out HK2.out, HR2.out⟩, (HK0.out.trans (HL.out.keepB HK1.out)).trans (HR1.out.keepB HK2.out)⟩

set_option maxRecDepth 100000 in
set_option maxHeartbeats 4000000 in
theorem do_1m (w : World) (B p q n : Nat) (bs : Bs) (last most : Nat) (v u : Value) (hL : LogAt w B p v n bs last most) (hR : RefAt w B q u bs (last * 64) most) (kind keep torn : Int) (a : Option Addr) (c : Nat) (l : Bs) (hx : ArgB w B (.slice a l.length c) l) (hxl : l.length ≤ 9223372036854775807) (hk : keep ≤ 9223372036854775807) (hlen : 200 < l.length ∧ l.length ≤ 1024) (hkind : kind = 1) :
    Calls Try.prog 30 #[.pointer (some ⟨p, 0, none⟩), .pointer (some ⟨q, 0, none⟩), .agg #[.int .i64 kind, .int .i64 keep, .int .i64 torn, .slice a l.length c]] w (DoPost w B p q most) := by
  obtain ⟨rs, hrs⟩ := parsed_exists bs
  have HRS := Lib.hid hrs
  have hOut : ¬ (w.heap.size = p ∨ v.ownBlock = some w.heap.size) := fun e => by rcases e with e | e; exact absurd hL.lt.1 (by omega); exact absurd (hL.lt.2 _ e).2 (by omega)
  have hOutR : ¬ (w.heap.size = q ∨ u.ownBlock = some w.heap.size) := fun e => by rcases e with e | e; exact absurd hR.lt.1 (by omega); exact absurd (hR.lt.2 _ e).2 (by omega)
  have hB : B ≤ w.heap.size := Nat.le_of_lt (Nat.lt_of_le_of_lt hL.base hL.lt.1)
  have hb0 : Below w.heap.size w (w.alloc (.cells #[.int .i64 kind, .int .i64 keep, .int .i64 torn, .slice a l.length c] 30)) := (Below.refl _ w).alloc (Nat.le_refl _) _
  have HK0 := Lib.hid (show Keeps (fun i => B ≤ i) w (w.alloc (.cells #[.int .i64 kind, .int .i64 keep, .int .i64 torn, .slice a l.length c] 30)) from Keeps.of_below hb0)
  have HL := Lib.hid (hL.below hb0)
  have HR := Lib.hid (hR.below hb0)
  have HX := Lib.hid (hx.kept HK0.out)
  have hlc : l.length ≤ c ∧ c ≤ maxLen := by
    obtain ⟨a', c', hv, h1, h2⟩ := hx.lv
    simp only [Value.slice.injEq, true_and] at hv
    omega
  obtain ⟨hlc, hcm⟩ := hlc
  have hnl := hL.row.1
  have HNL := Lib.hid hnl
  clear hL hR hx hb0 hrs hnl
  have t1 : (200 : Int) < (l.length : Int) := by omega
  have t2 : (l.length : Int) ≤ 1024 := by omega
  have t3 : 200 ≤ c := by omega
  clear hlen
  subst hkind
  go_enter Try.func30, Try.ntmps30
  go_wp2_with (first | (go_at_call 18; refine (sync_any _ B p v n bs last most HL.out).mono ?_; rintro e w1 ⟨rfl, hl1, hk1⟩; have HL1 := Lib.hid hl1; have HK1 := Lib.hid (show Keeps (fun i => i = p ∨ v.ownBlock = some i) _ w1 from hk1.mono fun i _ e => .inl e); have HR1 := Lib.hid (HR.out.keptL HL.out HK1.out); clear hl1 hk1) | (go_at_call 40; refine (syncR_any _ B q u bs (last * 64) most HR1.out).mono ?_; rintro e w2 ⟨rfl, hr2, hk2⟩; rw [HNL.out] at hr2; have HR2 := Lib.hid hr2; have HK2 := Lib.hid (show Keeps (fun i => i = q ∨ u.ownBlock = some i) _ w2 from hk2.mono fun i _ e => .inl e); clear hr2 hk2))

  go_ret
  exact ⟨rfl, ⟨_, _, _, _, _, HL1.out.keptR HR1.out HK2.out, HR2.out⟩, (HK0.out.trans (HL.out.keepB HK1.out)).trans (HR1.out.keepB HK2.out)⟩

set_option maxRecDepth 100000 in
set_option maxHeartbeats 4000000 in
theorem do_1l (w : World) (B p q n : Nat) (bs : Bs) (last most : Nat) (v u : Value) (hL : LogAt w B p v n bs last most) (hR : RefAt w B q u bs (last * 64) most) (kind keep torn : Int) (a : Option Addr) (c : Nat) (l : Bs) (hx : ArgB w B (.slice a l.length c) l) (hxl : l.length ≤ 9223372036854775807) (hk : keep ≤ 9223372036854775807) (hlen : 1024 < l.length) (hkind : kind = 1) :
    Calls Try.prog 30 #[.pointer (some ⟨p, 0, none⟩), .pointer (some ⟨q, 0, none⟩), .agg #[.int .i64 kind, .int .i64 keep, .int .i64 torn, .slice a l.length c]] w (DoPost w B p q most) := by
  obtain ⟨rs, hrs⟩ := parsed_exists bs
  have HRS := Lib.hid hrs
  have hOut : ¬ (w.heap.size = p ∨ v.ownBlock = some w.heap.size) := fun e => by rcases e with e | e; exact absurd hL.lt.1 (by omega); exact absurd (hL.lt.2 _ e).2 (by omega)
  have hOutR : ¬ (w.heap.size = q ∨ u.ownBlock = some w.heap.size) := fun e => by rcases e with e | e; exact absurd hR.lt.1 (by omega); exact absurd (hR.lt.2 _ e).2 (by omega)
  have hB : B ≤ w.heap.size := Nat.le_of_lt (Nat.lt_of_le_of_lt hL.base hL.lt.1)
  have hb0 : Below w.heap.size w (w.alloc (.cells #[.int .i64 kind, .int .i64 keep, .int .i64 torn, .slice a l.length c] 30)) := (Below.refl _ w).alloc (Nat.le_refl _) _
  have HK0 := Lib.hid (show Keeps (fun i => B ≤ i) w (w.alloc (.cells #[.int .i64 kind, .int .i64 keep, .int .i64 torn, .slice a l.length c] 30)) from Keeps.of_below hb0)
  have HL := Lib.hid (hL.below hb0)
  have HR := Lib.hid (hR.below hb0)
  have HX := Lib.hid (hx.kept HK0.out)
  have hlc : l.length ≤ c ∧ c ≤ maxLen := by
    obtain ⟨a', c', hv, h1, h2⟩ := hx.lv
    simp only [Value.slice.injEq, true_and] at hv
    omega
  obtain ⟨hlc, hcm⟩ := hlc
  have hnl := hL.row.1
  have HNL := Lib.hid hnl
  clear hL hR hx hb0 hrs hnl
  have t1 : (200 : Int) < (l.length : Int) := by omega
  have t2 : ¬ (l.length : Int) ≤ 1024 := by omega
  clear hlen
  subst hkind
  go_enter Try.func30, Try.ntmps30
  go_wp2_with (first | (go_at_call 18; refine (sync_any _ B p v n bs last most HL.out).mono ?_; rintro e w1 ⟨rfl, hl1, hk1⟩; have HL1 := Lib.hid hl1; have HK1 := Lib.hid (show Keeps (fun i => i = p ∨ v.ownBlock = some i) _ w1 from hk1.mono fun i _ e => .inl e); have HR1 := Lib.hid (HR.out.keptL HL.out HK1.out); clear hl1 hk1) | (go_at_call 40; refine (syncR_any _ B q u bs (last * 64) most HR1.out).mono ?_; rintro e w2 ⟨rfl, hr2, hk2⟩; rw [HNL.out] at hr2; have HR2 := Lib.hid hr2; have HK2 := Lib.hid (show Keeps (fun i => i = q ∨ u.ownBlock = some i) _ w2 from hk2.mono fun i _ e => .inl e); clear hr2 hk2))

  go_ret
  exact ⟨rfl, ⟨_, _, _, _, _, HL1.out.keptR HR1.out HK2.out, HR2.out⟩, (HK0.out.trans (HL.out.keepB HK1.out)).trans (HR1.out.keepB HK2.out)⟩

set_option maxRecDepth 100000 in
set_option maxHeartbeats 4000000 in
theorem do_2s (w : World) (B p q n : Nat) (bs : Bs) (last most : Nat) (v u : Value) (hL : LogAt w B p v n bs last most) (hR : RefAt w B q u bs (last * 64) most) (kind keep torn : Int) (a : Option Addr) (c : Nat) (l : Bs) (hx : ArgB w B (.slice a l.length c) l) (hxl : l.length ≤ 9223372036854775807) (hk : keep ≤ 9223372036854775807) (hlen : l.length ≤ 200) (hkind : kind = 2) :
    Calls Try.prog 30 #[.pointer (some ⟨p, 0, none⟩), .pointer (some ⟨q, 0, none⟩), .agg #[.int .i64 kind, .int .i64 keep, .int .i64 torn, .slice a l.length c]] w (DoPost w B p q most) := by
  obtain ⟨rs, hrs⟩ := parsed_exists bs
  have HRS := Lib.hid hrs
  have hOut : ¬ (w.heap.size = p ∨ v.ownBlock = some w.heap.size) := fun e => by rcases e with e | e; exact absurd hL.lt.1 (by omega); exact absurd (hL.lt.2 _ e).2 (by omega)
  have hOutR : ¬ (w.heap.size = q ∨ u.ownBlock = some w.heap.size) := fun e => by rcases e with e | e; exact absurd hR.lt.1 (by omega); exact absurd (hR.lt.2 _ e).2 (by omega)
  have hB : B ≤ w.heap.size := Nat.le_of_lt (Nat.lt_of_le_of_lt hL.base hL.lt.1)
  have hb0 : Below w.heap.size w (w.alloc (.cells #[.int .i64 kind, .int .i64 keep, .int .i64 torn, .slice a l.length c] 30)) := (Below.refl _ w).alloc (Nat.le_refl _) _
  have HK0 := Lib.hid (show Keeps (fun i => B ≤ i) w (w.alloc (.cells #[.int .i64 kind, .int .i64 keep, .int .i64 torn, .slice a l.length c] 30)) from Keeps.of_below hb0)
  have HL := Lib.hid (hL.below hb0)
  have HR := Lib.hid (hR.below hb0)
  have HX := Lib.hid (hx.kept HK0.out)
  have hlc : l.length ≤ c ∧ c ≤ maxLen := by
    obtain ⟨a', c', hv, h1, h2⟩ := hx.lv
    simp only [Value.slice.injEq, true_and] at hv
    omega
  obtain ⟨hlc, hcm⟩ := hlc
  have hnl := hL.row.1
  have HNL := Lib.hid hnl
  clear hL hR hx hb0 hrs hnl
  have t1 : ¬ (200 : Int) < (l.length : Int) := by omega
  clear hlen
  subst hkind
  have HOut := Lib.hid hOut
  have HOutR := Lib.hid hOutR
  go_enter Try.func30, Try.ntmps30
  go_wp2
  refine wp_region_N (fun w' => (w'.cell? ⟨w.heap.size, 1, none⟩ = some (.int .i64 keep)) ∧ (w'.cell? ⟨w.heap.size, 2, none⟩ = some (.int .i64 torn)))
    [(true, 0), (true, 1), (true, 2), (true, 3), (true, 4), (true, 6), (true, 7), (true, 8), (true, 9), (true, 10), (false, 5), (false, 11), (true, 12), (true, 13)] (by kernel_rfl) (by kernel_rfl) rfl (by kernel_rfl) ?_ ?_
  · exact ⟨by first | go_keep | exact K1.out | exact K2.out | exact K3.out | exact K4.out, by first | go_keep | exact K1.out | exact K2.out | exact K3.out | exact K4.out⟩
  simp only [List.filterMap_cons, List.filterMap_nil, List.getElem?_cons_succ, List.getElem?_cons_zero, Option.map_some]
  apply wpSeq_takeK _ (by first | rfl | (simp [Region.wanted, yielded]; done))
  · intro w' hS
    obtain ⟨s0, s1⟩ := hS
    skip
    go_simp
    try rfl
  intro K hK
  go_simp
  refine hK _ ?_
  clear hK K
  apply wpSeq_takeK _ (by first | rfl | (simp [Region.wanted, yielded]; done))
  · intro w' hS
    obtain ⟨s0, s1⟩ := hS
    skip
    go_simp
    try rfl
  intro K hK
  go_simp
  refine hK _ ?_
  clear hK K
  apply wpSeq_takeK _ (by first | rfl | (simp [Region.wanted, yielded]; done))
  · intro w' hS
    obtain ⟨s0, s1⟩ := hS
    skip
    go_simp
    try rfl
  intro K hK
  go_simp
  refine hK _ ?_
  clear hK K
  apply wpSeq_takeK _ (by first | rfl | (simp [Region.wanted, yielded]; done))
  · intro w' hS
    obtain ⟨s0, s1⟩ := hS
    skip
    go_simp
    try rfl
  intro K hK
  go_simp
  refine hK _ ?_
  clear hK K
  apply wpSeq_takeK _ (by first | rfl | (simp [Region.wanted, yielded]; done))
  · intro w' hS
    obtain ⟨s0, s1⟩ := hS
    skip
    go_simp
    try rfl
  intro K hK
  go_simp
  refine hK _ ?_
  clear hK K
  apply wpSeq_takeK _ (by first | rfl | (simp [Region.wanted, yielded]; done))
  · intro w' hS
    obtain ⟨s0, s1⟩ := hS
    skip
    go_simp
    try rfl
  intro K hK
  go_simp
  refine hK _ ?_
  clear hK K
  apply wpSeq_takeK _ (by first | rfl | (simp [Region.wanted, yielded]; done))
  · intro w' hS
    obtain ⟨s0, s1⟩ := hS
    skip
    go_simp
    try rfl
  intro K hK
  go_simp
  refine hK _ ?_
  clear hK K
  apply wpSeq_takeK _ (by first | rfl | (simp [Region.wanted, yielded]; done))
  · intro w' hS
    obtain ⟨s0, s1⟩ := hS
    skip
    go_simp
    try rfl
  intro K hK
  go_simp
  refine hK _ ?_
  clear hK K
  apply wpSeq_takeK _ (by first | rfl | (simp [Region.wanted, yielded]; done))
  · intro w' hS
    obtain ⟨s0, s1⟩ := hS
    skip
    go_simp
    try rfl
  intro K hK
  go_simp
  refine hK _ ?_
  clear hK K
  apply wpSeq_takeK _ (by first | rfl | (simp [Region.wanted, yielded]; done))
  · intro w' hS
    obtain ⟨s0, s1⟩ := hS
    skip
    go_simp
    try rfl
  intro K hK
  go_simp
  refine hK _ ?_
  clear hK K
  refine wpSeq_alone ?_
  (go_wp2_with (go_at_call 20; refine (crash_gen _ B p v n bs last most (HL.out.below (Below.refl _ _).drew) keep torn hk).mono ?_; rintro e w1 ⟨rfl, ⟨v1, hl1⟩, hk1⟩; have HL1 := Lib.hid hl1; have HK1 := Lib.hid (show Keeps (fun i => i = p ∨ v.ownBlock = some i) (w.alloc (.cells #[.int .i64 2, .int .i64 keep, .int .i64 torn, .slice a l.length c] 30)) w1 from ⟨hk1.os, hk1.tape, hk1.output, hk1.size, hk1.block⟩); have HR1 := Lib.hid (HR.out.keptL HL.out HK1.out); have HBX := Lib.hid ((HK1.out.block w.heap.size (by simp) (fun e => HOut.out e)).trans heap_alloc_eq); have K1 := Lib.hid (cells_of_block HBX.out 1 (.int .i64 keep) rfl).1; have K2 := Lib.hid (cells_of_block HBX.out 2 (.int .i64 torn) rfl).1; clear hl1 hk1))
  refine QS_normal ⟨by first | go_keep | exact K1.out | exact K2.out | exact K3.out | exact K4.out, by first | go_keep | exact K1.out | exact K2.out | exact K3.out | exact K4.out⟩ (fun _ => ?_)
  refine wpSeq_alone ?_
  (go_wp2_with (go_at_call 41; refine (crashR_gen _ B q u n bs last most HR1.out HNL.out keep torn).mono ?_; rintro e w2 ⟨rfl, ⟨u2, hr2⟩, hk2⟩; have HR2 := Lib.hid hr2; have HK2 := Lib.hid hk2; have HBY := Lib.hid ((hk2.block w.heap.size (heap_lt HBX.out) (fun e => HOutR.out e)).trans HBX.out); have K3 := Lib.hid (cells_of_block HBY.out 1 (.int .i64 keep) rfl).1; have K4 := Lib.hid (cells_of_block HBY.out 2 (.int .i64 torn) rfl).1; clear hr2 hk2))
  refine QS_normal ⟨by first | go_keep | exact K1.out | exact K2.out | exact K3.out | exact K4.out, by first | go_keep | exact K1.out | exact K2.out | exact K3.out | exact K4.out⟩ (fun _ => ?_)
  apply wpSeq_takeK _ (by first | rfl | (simp [Region.wanted, yielded]; done))
  · intro w' hS
    obtain ⟨s0, s1⟩ := hS
    skip
    go_simp
    try rfl
  intro K hK
  go_simp
  refine hK _ ?_
  clear hK K
  apply wpSeq_takeK _ (by first | rfl | (simp [Region.wanted, yielded]; done))
  · intro w' hS
    obtain ⟨s0, s1⟩ := hS
    skip
    go_simp
    try rfl
  intro K hK
  go_simp
  refine hK _ ?_
  clear hK K
  refine wpSeq_end ?_
  go_wp2

  go_ret
  exact ⟨rfl, ⟨_, _, _, _, _, HL1.out.keptR HR1.out HK2.out, HR2.out⟩, (HK0.out.trans (HL.out.keepB HK1.out)).trans (HR1.out.keepB HK2.out)⟩

set_option maxRecDepth 100000 in
set_option maxHeartbeats 4000000 in
theorem do_2m (w : World) (B p q n : Nat) (bs : Bs) (last most : Nat) (v u : Value) (hL : LogAt w B p v n bs last most) (hR : RefAt w B q u bs (last * 64) most) (kind keep torn : Int) (a : Option Addr) (c : Nat) (l : Bs) (hx : ArgB w B (.slice a l.length c) l) (hxl : l.length ≤ 9223372036854775807) (hk : keep ≤ 9223372036854775807) (hlen : 200 < l.length ∧ l.length ≤ 1024) (hkind : kind = 2) :
    Calls Try.prog 30 #[.pointer (some ⟨p, 0, none⟩), .pointer (some ⟨q, 0, none⟩), .agg #[.int .i64 kind, .int .i64 keep, .int .i64 torn, .slice a l.length c]] w (DoPost w B p q most) := by
  obtain ⟨rs, hrs⟩ := parsed_exists bs
  have HRS := Lib.hid hrs
  have hOut : ¬ (w.heap.size = p ∨ v.ownBlock = some w.heap.size) := fun e => by rcases e with e | e; exact absurd hL.lt.1 (by omega); exact absurd (hL.lt.2 _ e).2 (by omega)
  have hOutR : ¬ (w.heap.size = q ∨ u.ownBlock = some w.heap.size) := fun e => by rcases e with e | e; exact absurd hR.lt.1 (by omega); exact absurd (hR.lt.2 _ e).2 (by omega)
  have hB : B ≤ w.heap.size := Nat.le_of_lt (Nat.lt_of_le_of_lt hL.base hL.lt.1)
  have hb0 : Below w.heap.size w (w.alloc (.cells #[.int .i64 kind, .int .i64 keep, .int .i64 torn, .slice a l.length c] 30)) := (Below.refl _ w).alloc (Nat.le_refl _) _
  have HK0 := Lib.hid (show Keeps (fun i => B ≤ i) w (w.alloc (.cells #[.int .i64 kind, .int .i64 keep, .int .i64 torn, .slice a l.length c] 30)) from Keeps.of_below hb0)
  have HL := Lib.hid (hL.below hb0)
  have HR := Lib.hid (hR.below hb0)
  have HX := Lib.hid (hx.kept HK0.out)
  have hlc : l.length ≤ c ∧ c ≤ maxLen := by
    obtain ⟨a', c', hv, h1, h2⟩ := hx.lv
    simp only [Value.slice.injEq, true_and] at hv
    omega
  obtain ⟨hlc, hcm⟩ := hlc
  have hnl := hL.row.1
  have HNL := Lib.hid hnl
  clear hL hR hx hb0 hrs hnl
  have t1 : (200 : Int) < (l.length : Int) := by omega
  have t2 : (l.length : Int) ≤ 1024 := by omega
  have t3 : 200 ≤ c := by omega
  clear hlen
  subst hkind
  have HOut := Lib.hid hOut
  have HOutR := Lib.hid hOutR
  go_enter Try.func30, Try.ntmps30
  go_wp2
  refine wp_region_N (fun w' => (w'.cell? ⟨w.heap.size, 1, none⟩ = some (.int .i64 keep)) ∧ (w'.cell? ⟨w.heap.size, 2, none⟩ = some (.int .i64 torn)))
    [(true, 0), (true, 1), (true, 2), (true, 3), (true, 4), (true, 6), (true, 7), (true, 8), (true, 9), (true, 10), (false, 5), (false, 11), (true, 12), (true, 13)] (by kernel_rfl) (by kernel_rfl) rfl (by kernel_rfl) ?_ ?_
  · exact ⟨by first | go_keep | exact K1.out | exact K2.out | exact K3.out | exact K4.out, by first | go_keep | exact K1.out | exact K2.out | exact K3.out | exact K4.out⟩
  simp only [List.filterMap_cons, List.filterMap_nil, List.getElem?_cons_succ, List.getElem?_cons_zero, Option.map_some]
  apply wpSeq_takeK _ (by first | rfl | (simp [Region.wanted, yielded]; done))
  · intro w' hS
    obtain ⟨s0, s1⟩ := hS
    skip
    go_simp
    try rfl
  intro K hK
  go_simp
  refine hK _ ?_
  clear hK K
  apply wpSeq_takeK _ (by first | rfl | (simp [Region.wanted, yielded]; done))
  · intro w' hS
    obtain ⟨s0, s1⟩ := hS
    skip
    go_simp
    try rfl
  intro K hK
  go_simp
  refine hK _ ?_
  clear hK K
  apply wpSeq_takeK _ (by first | rfl | (simp [Region.wanted, yielded]; done))
  · intro w' hS
    obtain ⟨s0, s1⟩ := hS
    skip
    go_simp
    try rfl
  intro K hK
  go_simp
  refine hK _ ?_
  clear hK K
  apply wpSeq_takeK _ (by first | rfl | (simp [Region.wanted, yielded]; done))
  · intro w' hS
    obtain ⟨s0, s1⟩ := hS
    skip
    go_simp
    try rfl
  intro K hK
  go_simp
  refine hK _ ?_
  clear hK K
  apply wpSeq_takeK _ (by first | rfl | (simp [Region.wanted, yielded]; done))
  · intro w' hS
    obtain ⟨s0, s1⟩ := hS
    skip
    go_simp
    try rfl
  intro K hK
  go_simp
  refine hK _ ?_
  clear hK K
  apply wpSeq_takeK _ (by first | rfl | (simp [Region.wanted, yielded]; done))
  · intro w' hS
    obtain ⟨s0, s1⟩ := hS
    skip
    go_simp
    try rfl
  intro K hK
  go_simp
  refine hK _ ?_
  clear hK K
  apply wpSeq_takeK _ (by first | rfl | (simp [Region.wanted, yielded]; done))
  · intro w' hS
    obtain ⟨s0, s1⟩ := hS
    skip
    go_simp
    try rfl
  intro K hK
  go_simp
  refine hK _ ?_
  clear hK K
  apply wpSeq_takeK _ (by first | rfl | (simp [Region.wanted, yielded]; done))
  · intro w' hS
    obtain ⟨s0, s1⟩ := hS
    skip
    go_simp
    try rfl
  intro K hK
  go_simp
  refine hK _ ?_
  clear hK K
  apply wpSeq_takeK _ (by first | rfl | (simp [Region.wanted, yielded]; done))
  · intro w' hS
    obtain ⟨s0, s1⟩ := hS
    skip
    go_simp
    try rfl
  intro K hK
  go_simp
  refine hK _ ?_
  clear hK K
  apply wpSeq_takeK _ (by first | rfl | (simp [Region.wanted, yielded]; done))
  · intro w' hS
    obtain ⟨s0, s1⟩ := hS
    skip
    go_simp
    try rfl
  intro K hK
  go_simp
  refine hK _ ?_
  clear hK K
  refine wpSeq_alone ?_
  (go_wp2_with (go_at_call 20; refine (crash_gen _ B p v n bs last most (HL.out.below (Below.refl _ _).drew) keep torn hk).mono ?_; rintro e w1 ⟨rfl, ⟨v1, hl1⟩, hk1⟩; have HL1 := Lib.hid hl1; have HK1 := Lib.hid (show Keeps (fun i => i = p ∨ v.ownBlock = some i) (w.alloc (.cells #[.int .i64 2, .int .i64 keep, .int .i64 torn, .slice a l.length c] 30)) w1 from ⟨hk1.os, hk1.tape, hk1.output, hk1.size, hk1.block⟩); have HR1 := Lib.hid (HR.out.keptL HL.out HK1.out); have HBX := Lib.hid ((HK1.out.block w.heap.size (by simp) (fun e => HOut.out e)).trans heap_alloc_eq); have K1 := Lib.hid (cells_of_block HBX.out 1 (.int .i64 keep) rfl).1; have K2 := Lib.hid (cells_of_block HBX.out 2 (.int .i64 torn) rfl).1; clear hl1 hk1))
  refine QS_normal ⟨by first | go_keep | exact K1.out | exact K2.out | exact K3.out | exact K4.out, by first | go_keep | exact K1.out | exact K2.out | exact K3.out | exact K4.out⟩ (fun _ => ?_)
  refine wpSeq_alone ?_
  (go_wp2_with (go_at_call 41; refine (crashR_gen _ B q u n bs last most HR1.out HNL.out keep torn).mono ?_; rintro e w2 ⟨rfl, ⟨u2, hr2⟩, hk2⟩; have HR2 := Lib.hid hr2; have HK2 := Lib.hid hk2; have HBY := Lib.hid ((hk2.block w.heap.size (heap_lt HBX.out) (fun e => HOutR.out e)).trans HBX.out); have K3 := Lib.hid (cells_of_block HBY.out 1 (.int .i64 keep) rfl).1; have K4 := Lib.hid (cells_of_block HBY.out 2 (.int .i64 torn) rfl).1; clear hr2 hk2))
  refine QS_normal ⟨by first | go_keep | exact K1.out | exact K2.out | exact K3.out | exact K4.out, by first | go_keep | exact K1.out | exact K2.out | exact K3.out | exact K4.out⟩ (fun _ => ?_)
  apply wpSeq_takeK _ (by first | rfl | (simp [Region.wanted, yielded]; done))
  · intro w' hS
    obtain ⟨s0, s1⟩ := hS
    skip
    go_simp
    try rfl
  intro K hK
  go_simp
  refine hK _ ?_
  clear hK K
  apply wpSeq_takeK _ (by first | rfl | (simp [Region.wanted, yielded]; done))
  · intro w' hS
    obtain ⟨s0, s1⟩ := hS
    skip
    go_simp
    try rfl
  intro K hK
  go_simp
  refine hK _ ?_
  clear hK K
  refine wpSeq_end ?_
  go_wp2

  go_ret
  exact ⟨rfl, ⟨_, _, _, _, _, HL1.out.keptR HR1.out HK2.out, HR2.out⟩, (HK0.out.trans (HL.out.keepB HK1.out)).trans (HR1.out.keepB HK2.out)⟩

set_option maxRecDepth 100000 in
set_option maxHeartbeats 4000000 in
theorem do_2l (w : World) (B p q n : Nat) (bs : Bs) (last most : Nat) (v u : Value) (hL : LogAt w B p v n bs last most) (hR : RefAt w B q u bs (last * 64) most) (kind keep torn : Int) (a : Option Addr) (c : Nat) (l : Bs) (hx : ArgB w B (.slice a l.length c) l) (hxl : l.length ≤ 9223372036854775807) (hk : keep ≤ 9223372036854775807) (hlen : 1024 < l.length) (hkind : kind = 2) :
    Calls Try.prog 30 #[.pointer (some ⟨p, 0, none⟩), .pointer (some ⟨q, 0, none⟩), .agg #[.int .i64 kind, .int .i64 keep, .int .i64 torn, .slice a l.length c]] w (DoPost w B p q most) := by
  obtain ⟨rs, hrs⟩ := parsed_exists bs
  have HRS := Lib.hid hrs
  have hOut : ¬ (w.heap.size = p ∨ v.ownBlock = some w.heap.size) := fun e => by rcases e with e | e; exact absurd hL.lt.1 (by omega); exact absurd (hL.lt.2 _ e).2 (by omega)
  have hOutR : ¬ (w.heap.size = q ∨ u.ownBlock = some w.heap.size) := fun e => by rcases e with e | e; exact absurd hR.lt.1 (by omega); exact absurd (hR.lt.2 _ e).2 (by omega)
  have hB : B ≤ w.heap.size := Nat.le_of_lt (Nat.lt_of_le_of_lt hL.base hL.lt.1)
  have hb0 : Below w.heap.size w (w.alloc (.cells #[.int .i64 kind, .int .i64 keep, .int .i64 torn, .slice a l.length c] 30)) := (Below.refl _ w).alloc (Nat.le_refl _) _
  have HK0 := Lib.hid (show Keeps (fun i => B ≤ i) w (w.alloc (.cells #[.int .i64 kind, .int .i64 keep, .int .i64 torn, .slice a l.length c] 30)) from Keeps.of_below hb0)
  have HL := Lib.hid (hL.below hb0)
  have HR := Lib.hid (hR.below hb0)
  have HX := Lib.hid (hx.kept HK0.out)
  have hlc : l.length ≤ c ∧ c ≤ maxLen := by
    obtain ⟨a', c', hv, h1, h2⟩ := hx.lv
    simp only [Value.slice.injEq, true_and] at hv
    omega
  obtain ⟨hlc, hcm⟩ := hlc
  have hnl := hL.row.1
  have HNL := Lib.hid hnl
  clear hL hR hx hb0 hrs hnl
  have t1 : (200 : Int) < (l.length : Int) := by omega
  have t2 : ¬ (l.length : Int) ≤ 1024 := by omega
  clear hlen
  subst hkind
  have HOut := Lib.hid hOut
  have HOutR := Lib.hid hOutR
  go_enter Try.func30, Try.ntmps30
  go_wp2
  refine wp_region_N (fun w' => (w'.cell? ⟨w.heap.size, 1, none⟩ = some (.int .i64 keep)) ∧ (w'.cell? ⟨w.heap.size, 2, none⟩ = some (.int .i64 torn)))
    [(true, 0), (true, 1), (true, 2), (true, 3), (true, 4), (true, 6), (true, 7), (true, 8), (true, 9), (true, 10), (false, 5), (false, 11), (true, 12), (true, 13)] (by kernel_rfl) (by kernel_rfl) rfl (by kernel_rfl) ?_ ?_
  · exact ⟨by first | go_keep | exact K1.out | exact K2.out | exact K3.out | exact K4.out, by first | go_keep | exact K1.out | exact K2.out | exact K3.out | exact K4.out⟩
  simp only [List.filterMap_cons, List.filterMap_nil, List.getElem?_cons_succ, List.getElem?_cons_zero, Option.map_some]
  apply wpSeq_takeK _ (by first | rfl | (simp [Region.wanted, yielded]; done))
  · intro w' hS
    obtain ⟨s0, s1⟩ := hS
    skip
    go_simp
    try rfl
  intro K hK
  go_simp
  refine hK _ ?_
  clear hK K
  apply wpSeq_takeK _ (by first | rfl | (simp [Region.wanted, yielded]; done))
  · intro w' hS
    obtain ⟨s0, s1⟩ := hS
    skip
    go_simp
    try rfl
  intro K hK
  go_simp
  refine hK _ ?_
  clear hK K
  apply wpSeq_takeK _ (by first | rfl | (simp [Region.wanted, yielded]; done))
  · intro w' hS
    obtain ⟨s0, s1⟩ := hS
    skip
    go_simp
    try rfl
  intro K hK
  go_simp
  refine hK _ ?_
  clear hK K
  apply wpSeq_takeK _ (by first | rfl | (simp [Region.wanted, yielded]; done))
  · intro w' hS
    obtain ⟨s0, s1⟩ := hS
    skip
    go_simp
    try rfl
  intro K hK
  go_simp
  refine hK _ ?_
  clear hK K
  apply wpSeq_takeK _ (by first | rfl | (simp [Region.wanted, yielded]; done))
  · intro w' hS
    obtain ⟨s0, s1⟩ := hS
    skip
    go_simp
    try rfl
  intro K hK
  go_simp
  refine hK _ ?_
  clear hK K
  apply wpSeq_takeK _ (by first | rfl | (simp [Region.wanted, yielded]; done))
  · intro w' hS
    obtain ⟨s0, s1⟩ := hS
    skip
    go_simp
    try rfl
  intro K hK
  go_simp
  refine hK _ ?_
  clear hK K
  apply wpSeq_takeK _ (by first | rfl | (simp [Region.wanted, yielded]; done))
  · intro w' hS
    obtain ⟨s0, s1⟩ := hS
    skip
    go_simp
    try rfl
  intro K hK
  go_simp
  refine hK _ ?_
  clear hK K
  apply wpSeq_takeK _ (by first | rfl | (simp [Region.wanted, yielded]; done))
  · intro w' hS
    obtain ⟨s0, s1⟩ := hS
    skip
    go_simp
    try rfl
  intro K hK
  go_simp
  refine hK _ ?_
  clear hK K
  apply wpSeq_takeK _ (by first | rfl | (simp [Region.wanted, yielded]; done))
  · intro w' hS
    obtain ⟨s0, s1⟩ := hS
    skip
    go_simp
    try rfl
  intro K hK
  go_simp
  refine hK _ ?_
  clear hK K
  apply wpSeq_takeK _ (by first | rfl | (simp [Region.wanted, yielded]; done))
  · intro w' hS
    obtain ⟨s0, s1⟩ := hS
    skip
    go_simp
    try rfl
  intro K hK
  go_simp
  refine hK _ ?_
  clear hK K
  refine wpSeq_alone ?_
  (go_wp2_with (go_at_call 20; refine (crash_gen _ B p v n bs last most (HL.out.below (Below.refl _ _).drew) keep torn hk).mono ?_; rintro e w1 ⟨rfl, ⟨v1, hl1⟩, hk1⟩; have HL1 := Lib.hid hl1; have HK1 := Lib.hid (show Keeps (fun i => i = p ∨ v.ownBlock = some i) (w.alloc (.cells #[.int .i64 2, .int .i64 keep, .int .i64 torn, .slice a l.length c] 30)) w1 from ⟨hk1.os, hk1.tape, hk1.output, hk1.size, hk1.block⟩); have HR1 := Lib.hid (HR.out.keptL HL.out HK1.out); have HBX := Lib.hid ((HK1.out.block w.heap.size (by simp) (fun e => HOut.out e)).trans heap_alloc_eq); have K1 := Lib.hid (cells_of_block HBX.out 1 (.int .i64 keep) rfl).1; have K2 := Lib.hid (cells_of_block HBX.out 2 (.int .i64 torn) rfl).1; clear hl1 hk1))
  refine QS_normal ⟨by first | go_keep | exact K1.out | exact K2.out | exact K3.out | exact K4.out, by first | go_keep | exact K1.out | exact K2.out | exact K3.out | exact K4.out⟩ (fun _ => ?_)
  refine wpSeq_alone ?_
  (go_wp2_with (go_at_call 41; refine (crashR_gen _ B q u n bs last most HR1.out HNL.out keep torn).mono ?_; rintro e w2 ⟨rfl, ⟨u2, hr2⟩, hk2⟩; have HR2 := Lib.hid hr2; have HK2 := Lib.hid hk2; have HBY := Lib.hid ((hk2.block w.heap.size (heap_lt HBX.out) (fun e => HOutR.out e)).trans HBX.out); have K3 := Lib.hid (cells_of_block HBY.out 1 (.int .i64 keep) rfl).1; have K4 := Lib.hid (cells_of_block HBY.out 2 (.int .i64 torn) rfl).1; clear hr2 hk2))
  refine QS_normal ⟨by first | go_keep | exact K1.out | exact K2.out | exact K3.out | exact K4.out, by first | go_keep | exact K1.out | exact K2.out | exact K3.out | exact K4.out⟩ (fun _ => ?_)
  apply wpSeq_takeK _ (by first | rfl | (simp [Region.wanted, yielded]; done))
  · intro w' hS
    obtain ⟨s0, s1⟩ := hS
    skip
    go_simp
    try rfl
  intro K hK
  go_simp
  refine hK _ ?_
  clear hK K
  apply wpSeq_takeK _ (by first | rfl | (simp [Region.wanted, yielded]; done))
  · intro w' hS
    obtain ⟨s0, s1⟩ := hS
    skip
    go_simp
    try rfl
  intro K hK
  go_simp
  refine hK _ ?_
  clear hK K
  refine wpSeq_end ?_
  go_wp2

  go_ret
  exact ⟨rfl, ⟨_, _, _, _, _, HL1.out.keptR HR1.out HK2.out, HR2.out⟩, (HK0.out.trans (HL.out.keepB HK1.out)).trans (HR1.out.keepB HK2.out)⟩

set_option maxRecDepth 100000 in
set_option maxHeartbeats 4000000 in
theorem do_3s (w : World) (B p q n : Nat) (bs : Bs) (last most : Nat) (v u : Value) (hL : LogAt w B p v n bs last most) (hR : RefAt w B q u bs (last * 64) most) (kind keep torn : Int) (a : Option Addr) (c : Nat) (l : Bs) (hx : ArgB w B (.slice a l.length c) l) (hxl : l.length ≤ 9223372036854775807) (hk : keep ≤ 9223372036854775807) (hlen : l.length ≤ 200) (hkind : kind = 3) :
    Calls Try.prog 30 #[.pointer (some ⟨p, 0, none⟩), .pointer (some ⟨q, 0, none⟩), .agg #[.int .i64 kind, .int .i64 keep, .int .i64 torn, .slice a l.length c]] w (DoPost w B p q most) := by
  obtain ⟨rs, hrs⟩ := parsed_exists bs
  have HRS := Lib.hid hrs
  have hOut : ¬ (w.heap.size = p ∨ v.ownBlock = some w.heap.size) := fun e => by rcases e with e | e; exact absurd hL.lt.1 (by omega); exact absurd (hL.lt.2 _ e).2 (by omega)
  have hOutR : ¬ (w.heap.size = q ∨ u.ownBlock = some w.heap.size) := fun e => by rcases e with e | e; exact absurd hR.lt.1 (by omega); exact absurd (hR.lt.2 _ e).2 (by omega)
  have hB : B ≤ w.heap.size := Nat.le_of_lt (Nat.lt_of_le_of_lt hL.base hL.lt.1)
  have hb0 : Below w.heap.size w (w.alloc (.cells #[.int .i64 kind, .int .i64 keep, .int .i64 torn, .slice a l.length c] 30)) := (Below.refl _ w).alloc (Nat.le_refl _) _
  have HK0 := Lib.hid (show Keeps (fun i => B ≤ i) w (w.alloc (.cells #[.int .i64 kind, .int .i64 keep, .int .i64 torn, .slice a l.length c] 30)) from Keeps.of_below hb0)
  have HL := Lib.hid (hL.below hb0)
  have HR := Lib.hid (hR.below hb0)
  have HX := Lib.hid (hx.kept HK0.out)
  have hlc : l.length ≤ c ∧ c ≤ maxLen := by
    obtain ⟨a', c', hv, h1, h2⟩ := hx.lv
    simp only [Value.slice.injEq, true_and] at hv
    omega
  obtain ⟨hlc, hcm⟩ := hlc
  have hnl := hL.row.1
  have HNL := Lib.hid hnl
  clear hL hR hx hb0 hrs hnl
  have t1 : ¬ (200 : Int) < (l.length : Int) := by omega
  clear hlen
  subst hkind
  go_enter Try.func30, Try.ntmps30
  go_wp2_with (first | (go_at_call 23; refine (clean_any _ B p v n bs last most rs HL.out HRS.out).mono ?_; intro e w1 hcl; obtain ⟨rfl, ⟨v1, n1, hn1, hl1⟩, hk1⟩ := cleanPost_log HL.out.base hcl; have HN1 := Lib.hid hn1; have HL1 := Lib.hid hl1; have HK1 := Lib.hid hk1; have HR1 := Lib.hid (HR.out.keptL HL.out hk1); clear hl1 hk1 hn1 hcl) | (go_at_call 42; refine (cleanR_any _ B q u n bs (last * 64) most rs HR1.out HNL.out HRS.out).mono ?_; rintro e w2 ⟨rfl, u2, hr2, _, hk2⟩; rw [HN1.out] at hr2; have HR2 := Lib.hid hr2; have HK2 := Lib.hid (show Keeps (fun i => i = q ∨ u.ownBlock = some i) _ w2 from hk2.mono fun i _ e => .inl e); clear hr2 hk2))

  go_ret
  exact ⟨rfl, ⟨_, _, _, _, _, HL1.out.keptR HR1.out HK2.out, HR2.out⟩, (HK0.out.trans (HL.out.keepB HK1.out)).trans (HR1.out.keepB HK2.out)⟩

set_option maxRecDepth 100000 in
set_option maxHeartbeats 4000000 in
theorem do_3m (w : World) (B p q n : Nat) (bs : Bs) (last most : Nat) (v u : Value) (hL : LogAt w B p v n bs last most) (hR : RefAt w B q u bs (last * 64) most) (kind keep torn : Int) (a : Option Addr) (c : Nat) (l : Bs) (hx : ArgB w B (.slice a l.length c) l) (hxl : l.length ≤ 9223372036854775807) (hk : keep ≤ 9223372036854775807) (hlen : 200 < l.length ∧ l.length ≤ 1024) (hkind : kind = 3) :
    Calls Try.prog 30 #[.pointer (some ⟨p, 0, none⟩), .pointer (some ⟨q, 0, none⟩), .agg #[.int .i64 kind, .int .i64 keep, .int .i64 torn, .slice a l.length c]] w (DoPost w B p q most) := by
  obtain ⟨rs, hrs⟩ := parsed_exists bs
  have HRS := Lib.hid hrs
  have hOut : ¬ (w.heap.size = p ∨ v.ownBlock = some w.heap.size) := fun e => by rcases e with e | e; exact absurd hL.lt.1 (by omega); exact absurd (hL.lt.2 _ e).2 (by omega)
  have hOutR : ¬ (w.heap.size = q ∨ u.ownBlock = some w.heap.size) := fun e => by rcases e with e | e; exact absurd hR.lt.1 (by omega); exact absurd (hR.lt.2 _ e).2 (by omega)
  have hB : B ≤ w.heap.size := Nat.le_of_lt (Nat.lt_of_le_of_lt hL.base hL.lt.1)
  have hb0 : Below w.heap.size w (w.alloc (.cells #[.int .i64 kind, .int .i64 keep, .int .i64 torn, .slice a l.length c] 30)) := (Below.refl _ w).alloc (Nat.le_refl _) _
  have HK0 := Lib.hid (show Keeps (fun i => B ≤ i) w (w.alloc (.cells #[.int .i64 kind, .int .i64 keep, .int .i64 torn, .slice a l.length c] 30)) from Keeps.of_below hb0)
  have HL := Lib.hid (hL.below hb0)
  have HR := Lib.hid (hR.below hb0)
  have HX := Lib.hid (hx.kept HK0.out)
  have hlc : l.length ≤ c ∧ c ≤ maxLen := by
    obtain ⟨a', c', hv, h1, h2⟩ := hx.lv
    simp only [Value.slice.injEq, true_and] at hv
    omega
  obtain ⟨hlc, hcm⟩ := hlc
  have hnl := hL.row.1
  have HNL := Lib.hid hnl
  clear hL hR hx hb0 hrs hnl
  have t1 : (200 : Int) < (l.length : Int) := by omega
  have t2 : (l.length : Int) ≤ 1024 := by omega
  have t3 : 200 ≤ c := by omega
  clear hlen
  subst hkind
  go_enter Try.func30, Try.ntmps30
  go_wp2_with (first | (go_at_call 23; refine (clean_any _ B p v n bs last most rs HL.out HRS.out).mono ?_; intro e w1 hcl; obtain ⟨rfl, ⟨v1, n1, hn1, hl1⟩, hk1⟩ := cleanPost_log HL.out.base hcl; have HN1 := Lib.hid hn1; have HL1 := Lib.hid hl1; have HK1 := Lib.hid hk1; have HR1 := Lib.hid (HR.out.keptL HL.out hk1); clear hl1 hk1 hn1 hcl) | (go_at_call 42; refine (cleanR_any _ B q u n bs (last * 64) most rs HR1.out HNL.out HRS.out).mono ?_; rintro e w2 ⟨rfl, u2, hr2, _, hk2⟩; rw [HN1.out] at hr2; have HR2 := Lib.hid hr2; have HK2 := Lib.hid (show Keeps (fun i => i = q ∨ u.ownBlock = some i) _ w2 from hk2.mono fun i _ e => .inl e); clear hr2 hk2))

  go_ret
  exact ⟨rfl, ⟨_, _, _, _, _, HL1.out.keptR HR1.out HK2.out, HR2.out⟩, (HK0.out.trans (HL.out.keepB HK1.out)).trans (HR1.out.keepB HK2.out)⟩

set_option maxRecDepth 100000 in
set_option maxHeartbeats 4000000 in
theorem do_3l (w : World) (B p q n : Nat) (bs : Bs) (last most : Nat) (v u : Value) (hL : LogAt w B p v n bs last most) (hR : RefAt w B q u bs (last * 64) most) (kind keep torn : Int) (a : Option Addr) (c : Nat) (l : Bs) (hx : ArgB w B (.slice a l.length c) l) (hxl : l.length ≤ 9223372036854775807) (hk : keep ≤ 9223372036854775807) (hlen : 1024 < l.length) (hkind : kind = 3) :
    Calls Try.prog 30 #[.pointer (some ⟨p, 0, none⟩), .pointer (some ⟨q, 0, none⟩), .agg #[.int .i64 kind, .int .i64 keep, .int .i64 torn, .slice a l.length c]] w (DoPost w B p q most) := by
  obtain ⟨rs, hrs⟩ := parsed_exists bs
  have HRS := Lib.hid hrs
  have hOut : ¬ (w.heap.size = p ∨ v.ownBlock = some w.heap.size) := fun e => by rcases e with e | e; exact absurd hL.lt.1 (by omega); exact absurd (hL.lt.2 _ e).2 (by omega)
  have hOutR : ¬ (w.heap.size = q ∨ u.ownBlock = some w.heap.size) := fun e => by rcases e with e | e; exact absurd hR.lt.1 (by omega); exact absurd (hR.lt.2 _ e).2 (by omega)
  have hB : B ≤ w.heap.size := Nat.le_of_lt (Nat.lt_of_le_of_lt hL.base hL.lt.1)
  have hb0 : Below w.heap.size w (w.alloc (.cells #[.int .i64 kind, .int .i64 keep, .int .i64 torn, .slice a l.length c] 30)) := (Below.refl _ w).alloc (Nat.le_refl _) _
  have HK0 := Lib.hid (show Keeps (fun i => B ≤ i) w (w.alloc (.cells #[.int .i64 kind, .int .i64 keep, .int .i64 torn, .slice a l.length c] 30)) from Keeps.of_below hb0)
  have HL := Lib.hid (hL.below hb0)
  have HR := Lib.hid (hR.below hb0)
  have HX := Lib.hid (hx.kept HK0.out)
  have hlc : l.length ≤ c ∧ c ≤ maxLen := by
    obtain ⟨a', c', hv, h1, h2⟩ := hx.lv
    simp only [Value.slice.injEq, true_and] at hv
    omega
  obtain ⟨hlc, hcm⟩ := hlc
  have hnl := hL.row.1
  have HNL := Lib.hid hnl
  clear hL hR hx hb0 hrs hnl
  have t1 : (200 : Int) < (l.length : Int) := by omega
  have t2 : ¬ (l.length : Int) ≤ 1024 := by omega
  clear hlen
  subst hkind
  go_enter Try.func30, Try.ntmps30
  go_wp2_with (first | (go_at_call 23; refine (clean_any _ B p v n bs last most rs HL.out HRS.out).mono ?_; intro e w1 hcl; obtain ⟨rfl, ⟨v1, n1, hn1, hl1⟩, hk1⟩ := cleanPost_log HL.out.base hcl; have HN1 := Lib.hid hn1; have HL1 := Lib.hid hl1; have HK1 := Lib.hid hk1; have HR1 := Lib.hid (HR.out.keptL HL.out hk1); clear hl1 hk1 hn1 hcl) | (go_at_call 42; refine (cleanR_any _ B q u n bs (last * 64) most rs HR1.out HNL.out HRS.out).mono ?_; rintro e w2 ⟨rfl, u2, hr2, _, hk2⟩; rw [HN1.out] at hr2; have HR2 := Lib.hid hr2; have HK2 := Lib.hid (show Keeps (fun i => i = q ∨ u.ownBlock = some i) _ w2 from hk2.mono fun i _ e => .inl e); clear hr2 hk2))

  go_ret
  exact ⟨rfl, ⟨_, _, _, _, _, HL1.out.keptR HR1.out HK2.out, HR2.out⟩, (HK0.out.trans (HL.out.keepB HK1.out)).trans (HR1.out.keepB HK2.out)⟩

set_option maxRecDepth 100000 in
set_option maxHeartbeats 4000000 in
theorem do_4s (w : World) (B p q n : Nat) (bs : Bs) (last most : Nat) (v u : Value) (hL : LogAt w B p v n bs last most) (hR : RefAt w B q u bs (last * 64) most) (kind keep torn : Int) (a : Option Addr) (c : Nat) (l : Bs) (hx : ArgB w B (.slice a l.length c) l) (hxl : l.length ≤ 9223372036854775807) (hk : keep ≤ 9223372036854775807) (hlen : l.length ≤ 200) (hkind : kind ≠ 0 ∧ kind ≠ 1 ∧ kind ≠ 2 ∧ kind ≠ 3) :
    Calls Try.prog 30 #[.pointer (some ⟨p, 0, none⟩), .pointer (some ⟨q, 0, none⟩), .agg #[.int .i64 kind, .int .i64 keep, .int .i64 torn, .slice a l.length c]] w (DoPost w B p q most) := by
  obtain ⟨rs, hrs⟩ := parsed_exists bs
  have HRS := Lib.hid hrs
  have hOut : ¬ (w.heap.size = p ∨ v.ownBlock = some w.heap.size) := fun e => by rcases e with e | e; exact absurd hL.lt.1 (by omega); exact absurd (hL.lt.2 _ e).2 (by omega)
  have hOutR : ¬ (w.heap.size = q ∨ u.ownBlock = some w.heap.size) := fun e => by rcases e with e | e; exact absurd hR.lt.1 (by omega); exact absurd (hR.lt.2 _ e).2 (by omega)
  have hB : B ≤ w.heap.size := Nat.le_of_lt (Nat.lt_of_le_of_lt hL.base hL.lt.1)
  have hb0 : Below w.heap.size w (w.alloc (.cells #[.int .i64 kind, .int .i64 keep, .int .i64 torn, .slice a l.length c] 30)) := (Below.refl _ w).alloc (Nat.le_refl _) _
  have HK0 := Lib.hid (show Keeps (fun i => B ≤ i) w (w.alloc (.cells #[.int .i64 kind, .int .i64 keep, .int .i64 torn, .slice a l.length c] 30)) from Keeps.of_below hb0)
  have HL := Lib.hid (hL.below hb0)
  have HR := Lib.hid (hR.below hb0)
  have HX := Lib.hid (hx.kept HK0.out)
  have hlc : l.length ≤ c ∧ c ≤ maxLen := by
    obtain ⟨a', c', hv, h1, h2⟩ := hx.lv
    simp only [Value.slice.injEq, true_and] at hv
    omega
  obtain ⟨hlc, hcm⟩ := hlc
  have hnl := hL.row.1
  have HNL := Lib.hid hnl
  clear hL hR hx hb0 hrs hnl
  have t1 : ¬ (200 : Int) < (l.length : Int) := by omega
  clear hlen
  have e0 : (kind == 0) = false := by simp; omega
  have e1 : (kind == 1) = false := by simp; omega
  have e2 : (kind == 2) = false := by simp; omega
  have e3 : (kind == 3) = false := by simp; omega
  clear hkind
  go_enter Try.func30, Try.ntmps30
  go_wp2
  go_ret
  exact ⟨rfl, ⟨_, _, _, _, _, HL.out, HR.out⟩, HK0.out⟩

set_option maxRecDepth 100000 in
set_option maxHeartbeats 4000000 in
theorem do_4m (w : World) (B p q n : Nat) (bs : Bs) (last most : Nat) (v u : Value) (hL : LogAt w B p v n bs last most) (hR : RefAt w B q u bs (last * 64) most) (kind keep torn : Int) (a : Option Addr) (c : Nat) (l : Bs) (hx : ArgB w B (.slice a l.length c) l) (hxl : l.length ≤ 9223372036854775807) (hk : keep ≤ 9223372036854775807) (hlen : 200 < l.length ∧ l.length ≤ 1024) (hkind : kind ≠ 0 ∧ kind ≠ 1 ∧ kind ≠ 2 ∧ kind ≠ 3) :
    Calls Try.prog 30 #[.pointer (some ⟨p, 0, none⟩), .pointer (some ⟨q, 0, none⟩), .agg #[.int .i64 kind, .int .i64 keep, .int .i64 torn, .slice a l.length c]] w (DoPost w B p q most) := by
  obtain ⟨rs, hrs⟩ := parsed_exists bs
  have HRS := Lib.hid hrs
  have hOut : ¬ (w.heap.size = p ∨ v.ownBlock = some w.heap.size) := fun e => by rcases e with e | e; exact absurd hL.lt.1 (by omega); exact absurd (hL.lt.2 _ e).2 (by omega)
  have hOutR : ¬ (w.heap.size = q ∨ u.ownBlock = some w.heap.size) := fun e => by rcases e with e | e; exact absurd hR.lt.1 (by omega); exact absurd (hR.lt.2 _ e).2 (by omega)
  have hB : B ≤ w.heap.size := Nat.le_of_lt (Nat.lt_of_le_of_lt hL.base hL.lt.1)
  have hb0 : Below w.heap.size w (w.alloc (.cells #[.int .i64 kind, .int .i64 keep, .int .i64 torn, .slice a l.length c] 30)) := (Below.refl _ w).alloc (Nat.le_refl _) _
  have HK0 := Lib.hid (show Keeps (fun i => B ≤ i) w (w.alloc (.cells #[.int .i64 kind, .int .i64 keep, .int .i64 torn, .slice a l.length c] 30)) from Keeps.of_below hb0)
  have HL := Lib.hid (hL.below hb0)
  have HR := Lib.hid (hR.below hb0)
  have HX := Lib.hid (hx.kept HK0.out)
  have hlc : l.length ≤ c ∧ c ≤ maxLen := by
    obtain ⟨a', c', hv, h1, h2⟩ := hx.lv
    simp only [Value.slice.injEq, true_and] at hv
    omega
  obtain ⟨hlc, hcm⟩ := hlc
  have hnl := hL.row.1
  have HNL := Lib.hid hnl
  clear hL hR hx hb0 hrs hnl
  have t1 : (200 : Int) < (l.length : Int) := by omega
  have t2 : (l.length : Int) ≤ 1024 := by omega
  have t3 : 200 ≤ c := by omega
  clear hlen
  have e0 : (kind == 0) = false := by simp; omega
  have e1 : (kind == 1) = false := by simp; omega
  have e2 : (kind == 2) = false := by simp; omega
  have e3 : (kind == 3) = false := by simp; omega
  clear hkind
  go_enter Try.func30, Try.ntmps30
  go_wp2
  go_ret
  exact ⟨rfl, ⟨_, _, _, _, _, HL.out, HR.out⟩, HK0.out⟩

set_option maxRecDepth 100000 in
set_option maxHeartbeats 4000000 in
theorem do_4l (w : World) (B p q n : Nat) (bs : Bs) (last most : Nat) (v u : Value) (hL : LogAt w B p v n bs last most) (hR : RefAt w B q u bs (last * 64) most) (kind keep torn : Int) (a : Option Addr) (c : Nat) (l : Bs) (hx : ArgB w B (.slice a l.length c) l) (hxl : l.length ≤ 9223372036854775807) (hk : keep ≤ 9223372036854775807) (hlen : 1024 < l.length) (hkind : kind ≠ 0 ∧ kind ≠ 1 ∧ kind ≠ 2 ∧ kind ≠ 3) :
    Calls Try.prog 30 #[.pointer (some ⟨p, 0, none⟩), .pointer (some ⟨q, 0, none⟩), .agg #[.int .i64 kind, .int .i64 keep, .int .i64 torn, .slice a l.length c]] w (DoPost w B p q most) := by
  obtain ⟨rs, hrs⟩ := parsed_exists bs
  have HRS := Lib.hid hrs
  have hOut : ¬ (w.heap.size = p ∨ v.ownBlock = some w.heap.size) := fun e => by rcases e with e | e; exact absurd hL.lt.1 (by omega); exact absurd (hL.lt.2 _ e).2 (by omega)
  have hOutR : ¬ (w.heap.size = q ∨ u.ownBlock = some w.heap.size) := fun e => by rcases e with e | e; exact absurd hR.lt.1 (by omega); exact absurd (hR.lt.2 _ e).2 (by omega)
  have hB : B ≤ w.heap.size := Nat.le_of_lt (Nat.lt_of_le_of_lt hL.base hL.lt.1)
  have hb0 : Below w.heap.size w (w.alloc (.cells #[.int .i64 kind, .int .i64 keep, .int .i64 torn, .slice a l.length c] 30)) := (Below.refl _ w).alloc (Nat.le_refl _) _
  have HK0 := Lib.hid (show Keeps (fun i => B ≤ i) w (w.alloc (.cells #[.int .i64 kind, .int .i64 keep, .int .i64 torn, .slice a l.length c] 30)) from Keeps.of_below hb0)
  have HL := Lib.hid (hL.below hb0)
  have HR := Lib.hid (hR.below hb0)
  have HX := Lib.hid (hx.kept HK0.out)
  have hlc : l.length ≤ c ∧ c ≤ maxLen := by
    obtain ⟨a', c', hv, h1, h2⟩ := hx.lv
    simp only [Value.slice.injEq, true_and] at hv
    omega
  obtain ⟨hlc, hcm⟩ := hlc
  have hnl := hL.row.1
  have HNL := Lib.hid hnl
  clear hL hR hx hb0 hrs hnl
  have t1 : (200 : Int) < (l.length : Int) := by omega
  have t2 : ¬ (l.length : Int) ≤ 1024 := by omega
  clear hlen
  have e0 : (kind == 0) = false := by simp; omega
  have e1 : (kind == 1) = false := by simp; omega
  have e2 : (kind == 2) = false := by simp; omega
  have e3 : (kind == 3) = false := by simp; omega
  clear hkind
  go_enter Try.func30, Try.ntmps30
  go_wp2
  go_ret
  exact ⟨rfl, ⟨_, _, _, _, _, HL.out, HR.out⟩, HK0.out⟩


theorem do_any (w : World) (B p q most : Nat) (hs : ∃ n bs last, Sim w B p q n bs last most) (kind keep torn : Int) (x : Value) (l : Bs) (hx : ArgB w B x l) (hxl : l.length ≤ 9223372036854775807) (hk : keep ≤ 9223372036854775807) :
    Calls Try.prog 30 #[.pointer (some ⟨p, 0, none⟩), .pointer (some ⟨q, 0, none⟩), .agg #[.int .i64 kind, .int .i64 keep, .int .i64 torn, x]] w (DoPost w B p q most) := by
  obtain ⟨n, bs, last, v, u, hL, hR⟩ := hs
  obtain ⟨a, c, rfl, _, _⟩ := hx.lv
  by_cases k0 : kind = 0
  · by_cases h1 : l.length ≤ 200
    · exact do_0s w B p q n bs last most v u hL hR kind keep torn a c l hx hxl hk h1 k0
    by_cases h2 : l.length ≤ 1024
    · exact do_0m w B p q n bs last most v u hL hR kind keep torn a c l hx hxl hk ⟨by omega, h2⟩ k0
    · exact do_0l w B p q n bs last most v u hL hR kind keep torn a c l hx hxl hk (by omega) k0
  by_cases k1 : kind = 1
  · by_cases h1 : l.length ≤ 200
    · exact do_1s w B p q n bs last most v u hL hR kind keep torn a c l hx hxl hk h1 k1
    by_cases h2 : l.length ≤ 1024
    · exact do_1m w B p q n bs last most v u hL hR kind keep torn a c l hx hxl hk ⟨by omega, h2⟩ k1
    · exact do_1l w B p q n bs last most v u hL hR kind keep torn a c l hx hxl hk (by omega) k1
  by_cases k2 : kind = 2
  · by_cases h1 : l.length ≤ 200
    · exact do_2s w B p q n bs last most v u hL hR kind keep torn a c l hx hxl hk h1 k2
    by_cases h2 : l.length ≤ 1024
    · exact do_2m w B p q n bs last most v u hL hR kind keep torn a c l hx hxl hk ⟨by omega, h2⟩ k2
    · exact do_2l w B p q n bs last most v u hL hR kind keep torn a c l hx hxl hk (by omega) k2
  by_cases k3 : kind = 3
  · by_cases h1 : l.length ≤ 200
    · exact do_3s w B p q n bs last most v u hL hR kind keep torn a c l hx hxl hk h1 k3
    by_cases h2 : l.length ≤ 1024
    · exact do_3m w B p q n bs last most v u hL hR kind keep torn a c l hx hxl hk ⟨by omega, h2⟩ k3
    · exact do_3l w B p q n bs last most v u hL hR kind keep torn a c l hx hxl hk (by omega) k3
  · by_cases h1 : l.length ≤ 200
    · exact do_4s w B p q n bs last most v u hL hR kind keep torn a c l hx hxl hk h1 ⟨k0, k1, k2, k3⟩
    by_cases h2 : l.length ≤ 1024
    · exact do_4m w B p q n bs last most v u hL hR kind keep torn a c l hx hxl hk ⟨by omega, h2⟩ ⟨k0, k1, k2, k3⟩
    · exact do_4l w B p q n bs last most v u hL hR kind keep torn a c l hx hxl hk (by omega) ⟨k0, k1, k2, k3⟩

end Go.Proofs.Ytmkfiecdgghceaa
