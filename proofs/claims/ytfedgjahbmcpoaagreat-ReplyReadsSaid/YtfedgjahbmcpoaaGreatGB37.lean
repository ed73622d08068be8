/- reply's writer: its contracts, and Bytes. No conditions. -/
import Derived.Test.YtfedgjahbmcpoaaGreatGB36
import Derived.Test.YtfedgjahbmcpoaaGreatGB14
import Derived.Test.YtfedgjahbmcpoaaGreatGB16
import Derived.Test.YtfedgjahbmcpoaaGreatGB22
set_option linter.unusedSimpArgs false
set_option linter.unusedVariables false
namespace Go.Proofs.YtfedgjahbmcpoaaGreat
open Go.RowKit

/-- The writer has taken so many bytes. -/
def WrR (w0 w w' : World) (r : Ending) (q : Nat) (L : List Nat) : Prop := r = .returned (.tuple #[]) ∧ WS w0 w' q L false ∧ KeepQ w w' q
theorem WS.far {w0 w w' : World} {q : Nat} {L : List Nat} {b : Bool} (h : WS w0 w q L b) (hb : Below w.heap.size w w') : WS w0 w' q L b := h.below hb
theorem tE_nm {s : ByteArray} (h : s.size ≤ 65535) : (tP s).2 = 0 := by unfold tP; rw [if_pos h]
theorem sE_in {n : Int} (h : -9007199254740991 ≤ n ∧ n ≤ 9007199254740991) : (sP n).2 = 0 := by unfold sP; rw [if_pos h]
theorem ints_block (w : World) (l : List Int) : (w.alloc (.cells (l.map (Value.int .i64)).toArray 3)).heap[w.heap.size]? = some (.cells (l.map (Value.int .i64)).toArray 3 (0, 0)) := heap_alloc_new w _
theorem keep_new {w : World} {q : Nat} (o : Obj) : KeepQ w (w.alloc o) q := KeepQ.ofBelow (bel1 w o) q
theorem WS.qlt {w0 w : World} {q : Nat} {L : List Nat} {b : Bool} (h : WS w0 w q L b) : q < w.heap.size := by
  obtain ⟨v, h1, _⟩ := h.out
  exact (Array.getElem?_eq_some_iff.1 h1).1
set_option maxHeartbeats 16000000 in
set_option maxRecDepth 100000 in
theorem wcell_any {w0 w : World} {q : Nat} {L : List Nat} {c : Cel} (h : WS w0 w q L false) (hc : OkCe c) (hl : L.length ≤ 30000000000) :
    Calls Tryz.prog 40 #[.pointer (some ⟨q, 0, none⟩), c.v] w fun r w' => WrR w0 w w' r q (L ++ ceB c) := by
  have h1 := hc.at'
  have h2 := hc.ct
  have hsp := sP_ok c.at'
  obtain ⟨a, t⟩ := c
  unfold ceB Cel.v
  simp only at h1 h2 hsp ⊢
  have SE := Lib.hid (sE_in h1)
  have HSP := Lib.hid hsp
  have HS0 := Lib.hid (h.below (bel1 w (.cells #[.int .i64 a, .int .i64 t] 54)))
  have HK0 := Lib.hid (keep_new (w := w) (q := q) (.cells #[.int .i64 a, .int .i64 t] 54))
  have HQ0 := Lib.hid (heap_alloc_new w (.cells #[.int .i64 a, .int .i64 t] 54))
  have hqw := h.qlt
  clear h hc hsp
  go_enter Tryz.func40, Tryz.ntmps40
  go_wp2_with fail
  refine (S_all a _).mono ?_
  rw [SE.out]
  intro r w2 hh
  obtain ⟨A2, n2, c2, rfl, hB, hb2⟩ := hh.open HSP.out.1 (by have := HSP.out.2; omega)
  have HB2 := Lib.hid hB
  have HS2 := Lib.hid (HS0.out.below hb2)
  have HK2 := Lib.hid (HK0.out.trans (KeepQ.ofBelow hb2 q))
  have HQ2 := Lib.hid (blkB HQ0.out hb2)
  clear hh hB hb2 HS0 HK0 HQ0
  go_wp2_with fail
  refine (wput_any HS2.out HB2.out (by have := HSP.out.2; omega)).mono ?_
  rintro r w3 ⟨rfl, hs, hk⟩
  rw [show (false || decide ((0 : Int) ≠ 0)) = false from by decide] at hs
  have HS3 := Lib.hid hs
  have HQ3 := Lib.hid (hk.2 w.heap.size _ _ _ (by omega) (by decide) HQ2.out)
  have HK3 := Lib.hid (HK2.out.trans hk)
  clear hs hk HS2 HK2 HQ2 HB2
  have d1 := cell_of HQ3.out 1
  simp at d1
  go_wp2_with fail
  refine (wnumbers_any (w := w3.alloc (.cells #[.int .i64 t] 3)) (g := w3.heap.size) (l := [t]) (HS3.out.below (bel1 _ _)) (ints_block w3 [t]) (by have := HS3.out.qlt; omega) (by simp) (by rw [List.length_append]; have := HSP.out.2; omega)).mono ?_
  rintro r w4 ⟨rfl, hs, hk⟩
  rw [uE_in (by intro z hz; simp only [List.mem_cons, List.not_mem_nil, or_false] at hz; rcases hz with rfl <;> omega), Bool.or_false] at hs
  go_wp2_with fail
  go_end0
  exact ⟨rfl, by rw [← List.append_assoc]; exact hs, HK3.out.trans ((keep_new _).trans hk)⟩
set_option maxHeartbeats 16000000 in
set_option maxRecDepth 100000 in
theorem wedge_any {w0 w : World} {q : Nat} {L : List Nat} {x : Edg} (h : WS w0 w q L false) (hc : OkEd x) (hl : L.length ≤ 30000000000) :
    Calls Tryz.prog 42 #[.pointer (some ⟨q, 0, none⟩), x.v] w fun r w' => WrR w0 w w' r q (L ++ edB x) := by
  have h2 := hc.ct
  have n1 := nm_size hc.fr
  have n2 := nm_size hc.to'
  obtain ⟨f, t, c⟩ := x
  unfold edB tN Edg.v
  simp only at h2 n1 n2 ⊢
  have F1 := Lib.hid (tE_nm (s := f) (by omega))
  have F2 := Lib.hid (tE_nm (s := t) (by omega))
  have HLN := Lib.hid (show L.length + (tP f).1.length + (tP t).1.length ≤ 40000000000 by have := (tP_ok f).2; have := (tP_ok t).2; omega)
  have HS0 := Lib.hid (h.below (bel1 w (.cells #[.string f, .string t, .int .i64 c] 58)))
  have HK0 := Lib.hid (keep_new (w := w) (q := q) (.cells #[.string f, .string t, .int .i64 c] 58))
  have HQ0 := Lib.hid (heap_alloc_new w (.cells #[.string f, .string t, .int .i64 c] 58))
  have hqw := h.qlt
  have HNE := Lib.hid (show w.heap.size ≠ q by omega)
  clear h hc n1 n2
  go_enter Tryz.func42, Tryz.ntmps42
  go_wp2_with fail
  refine (Text_all f _).mono ?_
  rw [F1.out]
  intro r w2 hh
  obtain ⟨A1, n1, c1, rfl, hB, hb2⟩ := hh.open (tP_ok f).1 (by have := (tP_ok f).2; omega)
  have HB := Lib.hid hB
  have HS1 := Lib.hid (HS0.out.below hb2)
  have HK1 := Lib.hid (HK0.out.trans (KeepQ.ofBelow hb2 q))
  have HQ1 := Lib.hid (blkB HQ0.out hb2)
  clear hh hB hb2 HS0 HK0 HQ0
  go_wp2_with fail
  refine (wput_any HS1.out HB.out (by have := (tP_ok f).2; have := HLN.out; (try simp only [List.length_append] at *); omega)).mono ?_
  rintro r w3 ⟨rfl, hs, hk⟩
  rw [show (false || decide ((0 : Int) ≠ 0)) = false from by decide] at hs
  have HS2 := Lib.hid hs
  have HQ2 := Lib.hid (hk.2 _ _ _ _ HNE.out (by decide) HQ1.out)
  have HK2 := Lib.hid (HK1.out.trans hk)
  clear hs hk HS1 HK1 HQ1 HB
  have d1 := cell_of HQ2.out 1
  simp at d1
  go_wp2_with fail
  refine (Text_all t _).mono ?_
  rw [F2.out]
  intro r w4 hh
  obtain ⟨A2, n2, c2, rfl, hB, hb2⟩ := hh.open (tP_ok t).1 (by have := (tP_ok t).2; omega)
  have HB := Lib.hid hB
  have HS3 := Lib.hid (HS2.out.below hb2)
  have HK3 := Lib.hid (HK2.out.trans (KeepQ.ofBelow hb2 q))
  have HQ3 := Lib.hid (blkB HQ2.out hb2)
  clear hh hB hb2 HS2 HK2 HQ2 d1
  go_wp2_with fail
  refine (wput_any HS3.out HB.out (by have := (tP_ok t).2; have := HLN.out; (try simp only [List.length_append] at *); omega)).mono ?_
  rintro r w5 ⟨rfl, hs, hk⟩
  rw [show (false || decide ((0 : Int) ≠ 0)) = false from by decide] at hs
  have HS4 := Lib.hid hs
  have HQ4 := Lib.hid (hk.2 _ _ _ _ HNE.out (by decide) HQ3.out)
  have HK4 := Lib.hid (HK3.out.trans hk)
  clear hs hk HS3 HK3 HQ3 HB
  have d2 := cell_of HQ4.out 2
  simp at d2
  go_wp2_with fail
  refine (wnumbers_any (w := w5.alloc (.cells #[.int .i64 c] 3)) (g := w5.heap.size) (l := [c]) (HS4.out.below (bel1 _ _)) (ints_block w5 [c]) (by have := HS4.out.qlt; omega) (by simp) (by have := HLN.out; (try simp only [List.length_append] at *); omega)).mono ?_
  rintro r w6 ⟨rfl, hs, hk⟩
  rw [uE_in (by intro z hz; simp only [List.mem_cons, List.not_mem_nil, or_false] at hz; rcases hz with rfl <;> omega), Bool.or_false] at hs
  go_wp2_with fail
  go_end0
  exact ⟨rfl, by simpa [List.append_assoc] using hs, HK4.out.trans ((keep_new _).trans hk)⟩
set_option maxHeartbeats 16000000 in
set_option maxRecDepth 100000 in
theorem wseen_any {w0 w : World} {q : Nat} {L : List Nat} {s : Sen} {A : Option Addr} {n c : Nat} (h : WS w0 w q L false) (hA : AS w A n c s.sp.ats) (hA0 : AS w0 A n c s.sp.ats) (hc : OkSn s) (hl : L.length ≤ 30000000000) :
    Calls Tryz.prog 38 #[.pointer (some ⟨q, 0, none⟩), s.v (.slice A n c)] w fun r w' => WrR w0 w w' r q (L ++ snB s) := by
  have ho := hc.sp
  have h1 := ho.tr; have h2 := ho.id; have h3 := ho.pa; have h4 := ho.st; have h5 := ho.ln; have h6 := hc.dp
  have n1 := nm_size ho.sv
  have n2 := nm_size ho.op
  have hab := asB_ok ho.ats hA.pt
  have hat : atP s.sp.ats = (asB s.sp.ats, 0) := if_pos ho.ats
  have HNB := Lib.hid (uN_len [s.dp, bitN s.lo, s.sp.tr, s.sp.id, s.sp.pa, s.sp.st, s.sp.ln])
  obtain ⟨⟨tr, id, pa, sv, op, st, ln, sj, ats⟩, dp, lo⟩ := s
  unfold snB tN Sen.v
  simp only at *
  have hbt : 0 ≤ bitN lo ∧ bitN lo ≤ 1 := by unfold bitN; split <;> omega
  have F1 := Lib.hid (tE_nm (s := sv) (by omega))
  have F2 := Lib.hid (tE_nm (s := op) (by omega))
  have HLN := Lib.hid (show L.length + (uN [dp, (bitN lo), tr, id, pa, st, ln]).length + (tP sv).1.length + (tP op).1.length ≤ 40000000000 by have := (tP_ok sv).2; have := (tP_ok op).2; have := HNB.out; simp only [List.length_cons, List.length_nil] at this; omega)
  have hb1 := nx (bel1 w (.cells #[.int .i64 tr, .int .i64 id, .int .i64 pa, .string sv, .string op, .int .i64 st, .int .i64 ln, .string sj, .slice A n c, .int .i64 dp, .bool lo] 50)) (bel1 (w.alloc (.cells #[.int .i64 tr, .int .i64 id, .int .i64 pa, .string sv, .string op, .int .i64 st, .int .i64 ln, .string sj, .slice A n c, .int .i64 dp, .bool lo] 50)) (.cells #[.int .i64 tr, .int .i64 id, .int .i64 pa, .string sv, .string op, .int .i64 st, .int .i64 ln, .string sj, .slice A n c] 48))
  have hqw := h.qlt
  have HNE := Lib.hid (show w.heap.size + 1 ≠ q by omega)
  have HS0 := Lib.hid (h.below hb1)
  have HK0 := Lib.hid (KeepQ.ofBelow hb1 q)
  have HX0 := Lib.hid (blkB (heap_alloc_new w (.cells #[.int .i64 tr, .int .i64 id, .int .i64 pa, .string sv, .string op, .int .i64 st, .int .i64 ln, .string sj, .slice A n c, .int .i64 dp, .bool lo] 50)) (bel1 _ (.cells #[.int .i64 tr, .int .i64 id, .int .i64 pa, .string sv, .string op, .int .i64 st, .int .i64 ln, .string sj, .slice A n c] 48)))
  have hq0 := heap_alloc_new (w.alloc (.cells #[.int .i64 tr, .int .i64 id, .int .i64 pa, .string sv, .string op, .int .i64 st, .int .i64 ln, .string sj, .slice A n c, .int .i64 dp, .bool lo] 50)) (.cells #[.int .i64 tr, .int .i64 id, .int .i64 pa, .string sv, .string op, .int .i64 st, .int .i64 ln, .string sj, .slice A n c] 48)
  rw [World.size_alloc] at hq0
  have HQ0 := Lib.hid hq0
  have HA0 := Lib.hid hA0
  have HAB := Lib.hid hab
  have HAT := Lib.hid hat
  clear h hc n1 n2 hA hab hat hq0 hb1 hA0 ho
  have body : Calls Tryz.prog 38 #[.pointer (some ⟨q, 0, none⟩), .agg #[.int .i64 tr, .int .i64 id, .int .i64 pa, .string sv, .string op, .int .i64 st, .int .i64 ln, .string sj, .slice A n c, .int .i64 dp, .bool lo]] w fun r w' => WrR w0 w w' r q (L ++ (uN [dp, (bitN lo), tr, id, pa, st, ln] ++ ((tP sv).1 ++ ((tP op).1 ++ asB ats)))) := by
    cases lo with
    | false =>
      replace HLN := Lib.hid (show L.length + (uN [dp, 0, tr, id, pa, st, ln]).length + (tP sv).1.length + (tP op).1.length ≤ 40000000000 from HLN.out)
      go_enter Tryz.func38, Tryz.ntmps38
      go_wp2_with fail
      obtain ⟨W1, hW⟩ : ∃ W, W = (w.alloc (.cells #[.int .i64 tr, .int .i64 id, .int .i64 pa, .string sv, .string op, .int .i64 st, .int .i64 ln, .string sj, .slice A n c, .int .i64 dp, .bool false] 50)).alloc (.cells #[.int .i64 tr, .int .i64 id, .int .i64 pa, .string sv, .string op, .int .i64 st, .int .i64 ln, .string sj, .slice A n c] 48) := ⟨_, rfl⟩
      have hz : W1.heap.size = w.heap.size + 1 + 1 := by rw [hW, World.size_alloc, World.size_alloc]
      rw [← hW] at HS0 HK0 HQ0 ⊢
      clear hW HX0
      obtain ⟨g1, hg1⟩ : ∃ g, g = w.heap.size + 1 := ⟨_, rfl⟩
      rw [← hg1] at HQ0 HNE hz ⊢
      clear hg1
      have HZ := Lib.hid hz
      clear hz
      have hgl := (Array.getElem?_eq_some_iff.1 HQ0.out).1
      refine (wnumbers_any (w := W1.alloc (.cells #[.int .i64 dp, .int .i64 0, .int .i64 tr, .int .i64 id, .int .i64 pa, .int .i64 st, .int .i64 ln] 3)) (g := g1 + 1) (l := [dp, 0, tr, id, pa, st, ln]) (HS0.out.below (bel1 _ _)) (by have := ints_block W1 [dp, 0, tr, id, pa, st, ln]; rw [HZ.out] at this; exact this) (by have := HS0.out.qlt; have := HZ.out; omega) (by simp) (by have := HLN.out; omega)).mono ?_
      rintro r w2 ⟨rfl, hs, hk⟩
      rw [uE_in (by intro z hz; simp only [List.mem_cons, List.not_mem_nil, or_false] at hz; rcases hz with rfl | rfl | rfl | rfl | rfl | rfl | rfl <;> omega), Bool.or_false] at hs
      have HS1 := Lib.hid hs
      have HQ1 := Lib.hid (hk.2 g1 _ _ _ HNE.out (by decide) (blkB HQ0.out (bel1 _ _)))
      have HK1 := Lib.hid (HK0.out.trans ((keep_new _).trans hk))
      clear hs hk HS0 HQ0 HK0 hgl
      have d3 := cell_of HQ1.out 3
      simp at d3
      go_wp2_with fail
      refine (Text_all sv _).mono ?_
      rw [F1.out]
      intro r w3 hh
      obtain ⟨A1, n1, c1, rfl, hB, hb2⟩ := hh.open (tP_ok sv).1 (by have := (tP_ok sv).2; omega)
      have HB := Lib.hid hB
      have HS2 := Lib.hid (HS1.out.below hb2)
      have HK2 := Lib.hid (HK1.out.trans (KeepQ.ofBelow hb2 q))
      have HQ2 := Lib.hid (blkB HQ1.out hb2)
      clear hh hB hb2 HS1 HK1 HQ1 d3
      go_wp2_with fail
      refine (wput_any HS2.out HB.out (by have := (tP_ok sv).2; have := HLN.out; (try simp only [List.length_append] at *); omega)).mono ?_
      rintro r w4 ⟨rfl, hs, hk⟩
      rw [show (false || decide ((0 : Int) ≠ 0)) = false from by decide] at hs
      have HS3 := Lib.hid hs
      have HQ3 := Lib.hid (hk.2 _ _ _ _ HNE.out (by decide) HQ2.out)
      have HK3 := Lib.hid (HK2.out.trans hk)
      clear hs hk HS2 HK2 HQ2 HB
      have d4 := cell_of HQ3.out 4
      simp at d4
      go_wp2_with fail
      refine (Text_all op _).mono ?_
      rw [F2.out]
      intro r w5 hh
      obtain ⟨A2, n2, c2, rfl, hB, hb2⟩ := hh.open (tP_ok op).1 (by have := (tP_ok op).2; omega)
      have HB := Lib.hid hB
      have HS4 := Lib.hid (HS3.out.below hb2)
      have HK4 := Lib.hid (HK3.out.trans (KeepQ.ofBelow hb2 q))
      have HQ4 := Lib.hid (blkB HQ3.out hb2)
      clear hh hB hb2 HS3 HK3 HQ3 d4
      go_wp2_with fail
      refine (wput_any HS4.out HB.out (by have := (tP_ok op).2; have := HLN.out; (try simp only [List.length_append] at *); omega)).mono ?_
      rintro r w6 ⟨rfl, hs, hk⟩
      rw [show (false || decide ((0 : Int) ≠ 0)) = false from by decide] at hs
      have HS5 := Lib.hid hs
      have HQ5 := Lib.hid (hk.2 _ _ _ _ HNE.out (by decide) HQ4.out)
      have HK5 := Lib.hid (HK4.out.trans hk)
      clear hs hk HS4 HK4 HQ4 HB
      have d8 := cell_of HQ5.out 8
      simp at d8
      go_wp2_with fail
      refine (attrs_any (HA0.out.below HS5.out.bel)).mono ?_
      rw [HAT.out]
      intro r w7 hh
      obtain ⟨A7, n7, c7, rfl, hB, hb2⟩ := hh.open HAB.out.1 (by have := HAB.out.2; show (asB ats).length ≤ _; omega)
      have HB := Lib.hid hB
      have HS6 := Lib.hid (HS5.out.below hb2)
      have HK6 := Lib.hid (HK5.out.trans (KeepQ.ofBelow hb2 q))
      clear hh hB hb2 HS5 HK5 HQ5 d8
      go_wp2_with fail
      refine (wput_any HS6.out HB.out (by have := HAB.out.2; have := HLN.out; (try simp only [List.length_append] at *); omega)).mono ?_
      rintro r w8 ⟨rfl, hs, hk⟩
      rw [show (false || decide ((0 : Int) ≠ 0)) = false from by decide] at hs
      have HSZ := Lib.hid hs
      have HKZ := Lib.hid (HK6.out.trans hk)
      clear hs hk
      go_wp2_with fail
      go_end0
      exact ⟨rfl, by have := HSZ.out; simp only [List.append_assoc] at this; exact this, HKZ.out⟩
    | true =>
      replace HLN := Lib.hid (show L.length + (uN [dp, 1, tr, id, pa, st, ln]).length + (tP sv).1.length + (tP op).1.length ≤ 40000000000 from HLN.out)
      go_enter Tryz.func38, Tryz.ntmps38
      go_wp2_with fail
      obtain ⟨W1, hW⟩ : ∃ W, W = (w.alloc (.cells #[.int .i64 tr, .int .i64 id, .int .i64 pa, .string sv, .string op, .int .i64 st, .int .i64 ln, .string sj, .slice A n c, .int .i64 dp, .bool true] 50)).alloc (.cells #[.int .i64 tr, .int .i64 id, .int .i64 pa, .string sv, .string op, .int .i64 st, .int .i64 ln, .string sj, .slice A n c] 48) := ⟨_, rfl⟩
      have hz : W1.heap.size = w.heap.size + 1 + 1 := by rw [hW, World.size_alloc, World.size_alloc]
      rw [← hW] at HS0 HK0 HQ0 ⊢
      clear hW HX0
      obtain ⟨g1, hg1⟩ : ∃ g, g = w.heap.size + 1 := ⟨_, rfl⟩
      rw [← hg1] at HQ0 HNE hz ⊢
      clear hg1
      have HZ := Lib.hid hz
      clear hz
      have hgl := (Array.getElem?_eq_some_iff.1 HQ0.out).1
      refine (wnumbers_any (w := W1.alloc (.cells #[.int .i64 dp, .int .i64 1, .int .i64 tr, .int .i64 id, .int .i64 pa, .int .i64 st, .int .i64 ln] 3)) (g := g1 + 1) (l := [dp, 1, tr, id, pa, st, ln]) (HS0.out.below (bel1 _ _)) (by have := ints_block W1 [dp, 1, tr, id, pa, st, ln]; rw [HZ.out] at this; exact this) (by have := HS0.out.qlt; have := HZ.out; omega) (by simp) (by have := HLN.out; omega)).mono ?_
      rintro r w2 ⟨rfl, hs, hk⟩
      rw [uE_in (by intro z hz; simp only [List.mem_cons, List.not_mem_nil, or_false] at hz; rcases hz with rfl | rfl | rfl | rfl | rfl | rfl | rfl <;> omega), Bool.or_false] at hs
      have HS1 := Lib.hid hs
      have HQ1 := Lib.hid (hk.2 g1 _ _ _ HNE.out (by decide) (blkB HQ0.out (bel1 _ _)))
      have HK1 := Lib.hid (HK0.out.trans ((keep_new _).trans hk))
      clear hs hk HS0 HQ0 HK0 hgl
      have d3 := cell_of HQ1.out 3
      simp at d3
      go_wp2_with fail
      refine (Text_all sv _).mono ?_
      rw [F1.out]
      intro r w3 hh
      obtain ⟨A1, n1, c1, rfl, hB, hb2⟩ := hh.open (tP_ok sv).1 (by have := (tP_ok sv).2; omega)
      have HB := Lib.hid hB
      have HS2 := Lib.hid (HS1.out.below hb2)
      have HK2 := Lib.hid (HK1.out.trans (KeepQ.ofBelow hb2 q))
      have HQ2 := Lib.hid (blkB HQ1.out hb2)
      clear hh hB hb2 HS1 HK1 HQ1 d3
      go_wp2_with fail
      refine (wput_any HS2.out HB.out (by have := (tP_ok sv).2; have := HLN.out; (try simp only [List.length_append] at *); omega)).mono ?_
      rintro r w4 ⟨rfl, hs, hk⟩
      rw [show (false || decide ((0 : Int) ≠ 0)) = false from by decide] at hs
      have HS3 := Lib.hid hs
      have HQ3 := Lib.hid (hk.2 _ _ _ _ HNE.out (by decide) HQ2.out)
      have HK3 := Lib.hid (HK2.out.trans hk)
      clear hs hk HS2 HK2 HQ2 HB
      have d4 := cell_of HQ3.out 4
      simp at d4
      go_wp2_with fail
      refine (Text_all op _).mono ?_
      rw [F2.out]
      intro r w5 hh
      obtain ⟨A2, n2, c2, rfl, hB, hb2⟩ := hh.open (tP_ok op).1 (by have := (tP_ok op).2; omega)
      have HB := Lib.hid hB
      have HS4 := Lib.hid (HS3.out.below hb2)
      have HK4 := Lib.hid (HK3.out.trans (KeepQ.ofBelow hb2 q))
      have HQ4 := Lib.hid (blkB HQ3.out hb2)
      clear hh hB hb2 HS3 HK3 HQ3 d4
      go_wp2_with fail
      refine (wput_any HS4.out HB.out (by have := (tP_ok op).2; have := HLN.out; (try simp only [List.length_append] at *); omega)).mono ?_
      rintro r w6 ⟨rfl, hs, hk⟩
      rw [show (false || decide ((0 : Int) ≠ 0)) = false from by decide] at hs
      have HS5 := Lib.hid hs
      have HQ5 := Lib.hid (hk.2 _ _ _ _ HNE.out (by decide) HQ4.out)
      have HK5 := Lib.hid (HK4.out.trans hk)
      clear hs hk HS4 HK4 HQ4 HB
      have d8 := cell_of HQ5.out 8
      simp at d8
      go_wp2_with fail
      refine (attrs_any (HA0.out.below HS5.out.bel)).mono ?_
      rw [HAT.out]
      intro r w7 hh
      obtain ⟨A7, n7, c7, rfl, hB, hb2⟩ := hh.open HAB.out.1 (by have := HAB.out.2; show (asB ats).length ≤ _; omega)
      have HB := Lib.hid hB
      have HS6 := Lib.hid (HS5.out.below hb2)
      have HK6 := Lib.hid (HK5.out.trans (KeepQ.ofBelow hb2 q))
      clear hh hB hb2 HS5 HK5 HQ5 d8
      go_wp2_with fail
      refine (wput_any HS6.out HB.out (by have := HAB.out.2; have := HLN.out; (try simp only [List.length_append] at *); omega)).mono ?_
      rintro r w8 ⟨rfl, hs, hk⟩
      rw [show (false || decide ((0 : Int) ≠ 0)) = false from by decide] at hs
      have HSZ := Lib.hid hs
      have HKZ := Lib.hid (HK6.out.trans hk)
      clear hs hk
      go_wp2_with fail
      go_end0
      exact ⟨rfl, by have := HSZ.out; simp only [List.append_assoc] at this; exact this, HKZ.out⟩
  have e : L ++ (uN [dp, bitN lo, tr, id, pa, st, ln] ++ (List.map (fun s => (tP s).1) [sv, op]).flatten ++ asB ats) = L ++ (uN [dp, bitN lo, tr, id, pa, st, ln] ++ ((tP sv).1 ++ ((tP op).1 ++ asB ats))) := by simp [List.append_assoc]
  rw [e]
  exact body
end Go.Proofs.YtfedgjahbmcpoaaGreat
