/- A part of the walks: contracts of functions. -/
import Derived.Test.YtemeedfldapcjaaS4
namespace Go.Proofs.Ytemeedfldapcjaa
open Go.RowKit
set_option linter.unusedVariables false
set_option linter.unusedSimpArgs false
set_option maxRecDepth 100000 in
set_option maxHeartbeats 4000000 in
theorem do_take (L : QLoc) (R : RLoc) (q : WQ) (r : RQ) (n : Nat) (k : GKey) (now : Int) (w : World) (h : Both w L R q r n) (hn : n ≤ 500) :
    Calls Try.prog 28 #[.pointer (some ⟨L.bq, 0, none⟩), .pointer (some ⟨R.rq, 0, none⟩), .agg #[.int .i64 3, .int .u8 k.kind, .string k.name, .int .u64 now]] w (DoPost w L R n) := by
  obtain ⟨hq, hr, hrel⟩ := h
  have hltq := hq.lt
  have hltr := hr.lt
  have hq0 := hq.keep ((Keeps.refl (fun _ => False) w).alloc (.cells #[.int .i64 3, .int .u8 k.kind, .string k.name, .int .u64 now] 56)) (by simp) (by simp) (by simp)
  have hr0 := hr.keep ((Keeps.refl (fun _ => False) w).alloc (.cells #[.int .i64 3, .int .u8 k.kind, .string k.name, .int .u64 now] 56)) (by simp)
  have hk0 := (Keeps.refl (mine2 L R) w).alloc (.cells #[.int .i64 3, .int .u8 k.kind, .string k.name, .int .u64 now] 56)
  have hx0 : (w.alloc (.cells #[.int .i64 3, .int .u8 k.kind, .string k.name, .int .u64 now] 56)).heap[w.heap.size]? = some (.cells #[.int .i64 3, .int .u8 k.kind, .string k.name, .int .u64 now] 56) := heap_alloc_eq
  have hap := hq0.apartR hr0
  have nq : ¬ L.mine w.heap.size := fun hm => by have := hltq _ hm; omega
  have nr : ¬ R.mine w.heap.size := fun hm => by have := hltr _ hm; omega
  have HAP := Lib.hid hap
  have HNQ := Lib.hid nq
  have HNR := Lib.hid nr
  have HQ1 := Lib.hid hq0
  have HR1 := Lib.hid hr0
  have HK1 := Lib.hid hk0
  have HX1 := Lib.hid hx0
  have HREL := Lib.hid hrel
  have hlen : r.l.length < 1000 := by have := hrel.len; have h2 := congrArg List.length hrel.l; simp at h2; omega
  have HN := Lib.hid hlen
  clear hq hr hltq hltr hap nq nr hq0 hr0 hk0 hrel hlen
  obtain ⟨d0, _⟩ := cells_of_block hx0 0 _ rfl
  obtain ⟨d3, _⟩ := cells_of_block hx0 3 _ rfl
  simp only [List.getElem_toArray, List.getElem_cons_zero, List.getElem_cons_succ] at d0 d3
  clear hx0
  cases htr : takeR q now with
  | none =>
    go_enter Try.func28, Try.ntmps28
    go_wp2_with fail
    generalize hW1 : w.alloc (.cells #[.int .i64 3, .int .u8 k.kind, .string k.name, .int .u64 now] 56) = W1 at *
    clear hW1
    refine (took_any L q now _ HQ1.out HREL.out.since).mono ?_
    rintro e w2 ⟨rfl, hq2, hk2⟩
    rw [htr]
    simp only [takeV]
    have hx2 := (hk2.block _ (heap_lt HX1.out) HNQ.out).trans HX1.out
    have hr2 := HR1.out.keep hk2 (fun i h1 h2 => HAP.out i h2 h1)
    have hr3 := hr2.keep ((Keeps.refl (fun _ => False) w2).alloc (.cells #[.int .u8 0, .string ⟨#[]⟩] 28)) (by simp)
    have hq3 := hq2.keep ((Keeps.refl (fun _ => False) w2).alloc (.cells #[.int .u8 0, .string ⟨#[]⟩] 28)) (by simp) (by simp) (by simp)
    have HQ3 := Lib.hid hq3
    have HR3 := Lib.hid hr3
    have HK3 := Lib.hid ((HK1.out.trans (hk2.mono (fun i _ h => .inl h))).alloc (.cells #[.int .u8 0, .string ⟨#[]⟩] 28))
    have hb3 : (w2.alloc (.cells #[.int .u8 0, .string ⟨#[]⟩] 28)).heap[w2.heap.size]? = some (.cells #[.int .u8 0, .string ⟨#[]⟩] 28) := heap_alloc_eq
    have HB3 := Lib.hid hb3
    clear d0 d3
    have hx3 : (w2.alloc (.cells #[.int .u8 0, .string ⟨#[]⟩] 28)).heap[w.heap.size]? = some (.cells #[.int .i64 3, .int .u8 k.kind, .string k.name, .int .u64 now] 56) := (heap_alloc_lt (heap_lt hx2)).trans hx2
    obtain ⟨d4, _⟩ := cells_of_block hx3 3 _ rfl
    obtain ⟨d3, _⟩ := cells_of_block hx2 3  _ rfl
    simp only [List.getElem_toArray, List.getElem_cons_zero, List.getElem_cons_succ] at d3 d4
    clear hx3
    have htk : q.took now = q := by simp [WQ.took, htr]
    have HTK := Lib.hid htk
    have HTR := Lib.hid htr
    clear hk2 hx2 hr2 hr3 hq2 hq3 hb3 htk htr
    go_wp2_with fail
    refine (takeR_any R r now _ HR3.out HN.out).mono ?_
    rintro e w4 (⟨hnd, rfl, hb⟩ | ⟨i, hi, hf, hd, rfl, _⟩)
    · have hx4 := (hb.block _ (heap_lt HB3.out)).trans HB3.out
      have HQ4 := Lib.hid (HQ3.out.keep (Keeps.of_below (F := fun _ => False) hb) (by simp) (by simp) (by simp))
      have HR4 := Lib.hid (HR3.out.keep (Keeps.of_below (F := fun _ => False) hb) (by simp))
      have HK4 := Lib.hid (HK3.out.trans (Keeps.of_below hb))
      obtain ⟨y0, _⟩ := cells_of_block hx4 0 _ rfl
      obtain ⟨y1, _⟩ := cells_of_block hx4 1 _ rfl
      simp only [List.getElem_toArray, List.getElem_cons_zero, List.getElem_cons_succ] at y0 y1
      have hx5 : (w4.alloc (.cells #[.int .u8 0, .string ⟨#[]⟩] 28)).heap[w2.heap.size]? = some (.cells #[.int .u8 0, .string ⟨#[]⟩] 28) := (heap_alloc_lt (heap_lt hx4)).trans hx4
      obtain ⟨v0, _⟩ := cells_of_block hx5 0 _ rfl
      obtain ⟨v1, _⟩ := cells_of_block hx5 1 _ rfl
      simp only [List.getElem_toArray, List.getElem_cons_zero, List.getElem_cons_succ] at v0 v1
      clear hx5 y0 y1
      clear hb hx4 d3 d4 hnd
      simp only [takeV]
      go_wp2
      go_ret
      have kk := (Keeps.refl (fun _ => False) w4).alloc (.cells #[.int .u8 0, .string ⟨#[]⟩] 28)
      exact ⟨ret_true (by simp), q, r, R, ⟨by rw [← HTK.out]; exact HQ4.out.keep kk (by simp) (by simp) (by simp), HR4.out.keep kk (by simp), HREL.out.mono (by omega)⟩, HK4.out.alloc _, .refl _ _⟩
    · exfalso
      have := (HREL.out.takeSome hi hf hd).1
      rw [HTR.out] at this; cases this
  | some kk =>
    go_enter Try.func28, Try.ntmps28
    go_wp2_with fail
    generalize hW1 : w.alloc (.cells #[.int .i64 3, .int .u8 k.kind, .string k.name, .int .u64 now] 56) = W1 at *
    clear hW1
    refine (took_any L q now _ HQ1.out HREL.out.since).mono ?_
    rintro e w2 ⟨rfl, hq2, hk2⟩
    rw [htr]
    simp only [takeV]
    have hx2 := (hk2.block _ (heap_lt HX1.out) HNQ.out).trans HX1.out
    have hr2 := HR1.out.keep hk2 (fun i h1 h2 => HAP.out i h2 h1)
    have hr3 := hr2.keep ((Keeps.refl (fun _ => False) w2).alloc (.cells #[.int .u8 kk.kind, .string kk.name] 28)) (by simp)
    have hq3 := hq2.keep ((Keeps.refl (fun _ => False) w2).alloc (.cells #[.int .u8 kk.kind, .string kk.name] 28)) (by simp) (by simp) (by simp)
    have HQ3 := Lib.hid hq3
    have HR3 := Lib.hid hr3
    have HK3 := Lib.hid ((HK1.out.trans (hk2.mono (fun i _ h => .inl h))).alloc (.cells #[.int .u8 kk.kind, .string kk.name] 28))
    have hb3 : (w2.alloc (.cells #[.int .u8 kk.kind, .string kk.name] 28)).heap[w2.heap.size]? = some (.cells #[.int .u8 kk.kind, .string kk.name] 28) := heap_alloc_eq
    have HB3 := Lib.hid hb3
    have hnr2 : ¬ R.mine w2.heap.size := fun hm => by have := hr2.lt _ hm; omega
    have HNR2 := Lib.hid hnr2
    clear d0 d3
    have hx3 : (w2.alloc (.cells #[.int .u8 kk.kind, .string kk.name] 28)).heap[w.heap.size]? = some (.cells #[.int .i64 3, .int .u8 k.kind, .string k.name, .int .u64 now] 56) := (heap_alloc_lt (heap_lt hx2)).trans hx2
    obtain ⟨d4, _⟩ := cells_of_block hx3 3 _ rfl
    obtain ⟨d3, _⟩ := cells_of_block hx2 3  _ rfl
    simp only [List.getElem_toArray, List.getElem_cons_zero, List.getElem_cons_succ] at d3 d4
    clear hx3
    have htk : q.took now = q.drop kk := by simp [WQ.took, htr]
    have HTK := Lib.hid htk
    have HTR := Lib.hid htr
    clear hk2 hx2 hr2 hr3 hq2 hq3 hb3 htk htr hnr2
    go_wp2_with fail
    refine (takeR_any R r now _ HR3.out HN.out).mono ?_
    rintro e w4 (⟨hnd, rfl, hb⟩ | ⟨i, hi, hf, hd, rfl, R4, hr4, hk4, hn4⟩)
    · exfalso
      have := HREL.out.takeNone hnd
      rw [HTR.out] at this; cases this
    · obtain ⟨he, hrel2⟩ := HREL.out.takeSome hi hf hd
      rw [HTR.out] at he
      have he2 : r.l[i].1 = kk := by simpa using he.symm
      have hx4 := (hk4.block _ (heap_lt HB3.out) HNR2.out).trans HB3.out
      have HQ4 := Lib.hid (HQ3.out.keepM hk4 (fun j h1 h2 => HAP.out j h1 h2))
      have HR4 := Lib.hid hr4
      have HK4 := Lib.hid (HK3.out.trans (hk4.mono (fun j _ h => .inr h)))
      have HN4 := Lib.hid ((RLoc.Next.refl R w).trans hn4 HK3.out.size)
      rw [he2] at hrel2 ⊢
      have HREL2 := Lib.hid hrel2
      obtain ⟨y0, _⟩ := cells_of_block hx4 0 _ rfl
      obtain ⟨y1, _⟩ := cells_of_block hx4 1 _ rfl
      simp only [List.getElem_toArray, List.getElem_cons_zero, List.getElem_cons_succ] at y0 y1
      have hx5 : (w4.alloc (.cells #[.int .u8 kk.kind, .string kk.name] 28)).heap[w2.heap.size]? = some (.cells #[.int .u8 kk.kind, .string kk.name] 28) := (heap_alloc_lt (heap_lt hx4)).trans hx4
      obtain ⟨v0, _⟩ := cells_of_block hx5 0 _ rfl
      obtain ⟨v1, _⟩ := cells_of_block hx5 1 _ rfl
      simp only [List.getElem_toArray, List.getElem_cons_zero, List.getElem_cons_succ] at v0 v1
      clear hx5 y0 y1
      clear hx4 d3 d4 he he2 hrel2 hr4 hk4 hn4 hf hd
      simp only [takeV]
      go_wp2
      go_ret
      have kf := (Keeps.refl (fun _ => False) w4).alloc (.cells #[.int .u8 kk.kind, .string kk.name] 28)
      exact ⟨ret_true (by simp), q.drop kk, r.drop i, R4, ⟨by rw [← HTK.out]; exact HQ4.out.keep kf (by simp) (by simp) (by simp), HR4.out.keep kf (by simp), HREL2.out.mono (by omega)⟩, HK4.out.alloc _, HN4.out⟩

set_option maxRecDepth 100000 in
theorem do_other (L : QLoc) (R : RLoc) (q : WQ) (r : RQ) (n : Nat) (kind : Int) (k : GKey) (now : Int) (w : World) (h : Both w L R q r n) (h0 : ¬ kind = 0) (h1 : ¬ kind = 1) (h2 : ¬ kind = 2) (h3 : ¬ kind = 3) :
    Calls Try.prog 28 #[.pointer (some ⟨L.bq, 0, none⟩), .pointer (some ⟨R.rq, 0, none⟩), .agg #[.int .i64 kind, .int .u8 k.kind, .string k.name, .int .u64 now]] w (DoPost w L R n) := by
  have HB := Lib.hid h
  clear h
  go_enter Try.func28, Try.ntmps28
  go_wp2
  go_ret
  have kk := (Keeps.refl (fun _ => False) w).alloc (.cells #[.int .i64 kind, .int .u8 k.kind, .string k.name, .int .u64 now] 56)
  exact ⟨rfl, q, r, R, ⟨HB.out.qa.keep kk (by simp) (by simp) (by simp), HB.out.ra.keep kk (by simp), HB.out.rel.mono (by omega)⟩, (Keeps.refl _ _).alloc _, .refl _ _⟩

theorem do_any (L : QLoc) (R : RLoc) (q : WQ) (r : RQ) (n : Nat) (kind : Int) (k : GKey) (now : Int) (w : World) (h : Both w L R q r n) (hn : n ≤ 500) (hnow : 0 ≤ now ∧ now ≤ topU) :
    Calls Try.prog 28 #[.pointer (some ⟨L.bq, 0, none⟩), .pointer (some ⟨R.rq, 0, none⟩), .agg #[.int .i64 kind, .int .u8 k.kind, .string k.name, .int .u64 now]] w (DoPost w L R n) := by
  by_cases h0 : kind = 0
  · subst h0; exact do_add L R q r n k now w h hn hnow
  by_cases h1 : kind = 1
  · subst h1; exact do_fail L R q r n k now w h hn hnow
  by_cases h2 : kind = 2
  · subst h2; exact do_forget L R q r n k now w h hn hnow
  by_cases h3 : kind = 3
  · subst h3; exact do_take L R q r n k now w h hn
  exact do_other L R q r n kind k now w h h0 h1 h2 h3
end Go.Proofs.Ytemeedfldapcjaa
