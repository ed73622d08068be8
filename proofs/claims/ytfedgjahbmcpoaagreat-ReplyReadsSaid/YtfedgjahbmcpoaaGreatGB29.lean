/- reply's reader: one cell, one edge, one span off it. No conditions. -/
import Derived.Test.YtfedgjahbmcpoaaGreatGB28
import Derived.Test.YtfedgjahbmcpoaaGreatGB23
import Derived.Test.YtfedgjahbmcpoaaGreatGB19
import Derived.Deep.QuietTactic
import Derived.BigQuiet
import Derived.Deep.RegionHeld3
set_option linter.unusedSimpArgs false
set_option linter.unusedVariables false
namespace Go.Proofs.YtfedgjahbmcpoaaGreat
open Go.RowKit

theorem cellG {w w' : World} {q i g : Nat} {v : Value} (h : w.cell? ⟨q, i, none⟩ = some v) (hg : w.grownBy w' (some g)) (hn : q ≠ g) : w'.cell? ⟨q, i, none⟩ = some v := by
  have hlt := World.block_lt_of_cell? w _ h
  rw [← h]
  unfold World.cell?
  rw [hg.block q hlt (fun e => hn (by injection e))]
theorem cellS {w : World} {q i b j : Nat} {v x : Value} (h : w.cell? ⟨q, i, none⟩ = some v) (hn : q ≠ b) : (w.setCell ⟨b, j, none⟩ x).cell? ⟨q, i, none⟩ = some v := by
  rw [← h]
  unfold World.cell?
  rw [Below.heap_setCell w ⟨b, j, none⟩ x q hn]
theorem gblk {w a : World} {g q : Nat} {o : Obj} (h : w.heap[q]? = some o) (hg : w.grownBy a (some g)) (hn : q ≠ g) : a.heap[q]? = some o := (hg.block q (Array.getElem?_eq_some_iff.1 h).1 (fun e => hn (by injection e))).trans h
theorem rset {w : World} {lo g : Nat} {e : Int} {l : List Nat} (h : Rdr w lo g e l) {b : Nat} (hb : g < b) (j : Nat) (x : Value) : Rdr (w.setCell ⟨b, j, none⟩ x) lo g e l := h.grown (grown_set w b j x) (fun k hk => by injection hk with hk; omega)
set_option maxHeartbeats 16000000 in
set_option maxRecDepth 100000 in
theorem rdcell_any {lo g : Nat} {e : Int} {l : List Nat} {w : World} (h : Rdr w lo g e l) :
    Calls Tryz.prog 23 #[.agg #[.pointer (some ⟨g, 0, none⟩)]] w fun r w' => r = .returned (tkCe e l).1.v ∧ Rdr w' lo g (tkCe e l).2.1 (tkCe e l).2.2 ∧ w.grownBy w' (some g) := by
  obtain ⟨x1, hx1⟩ : ∃ x, x = nb 18014398509481982 e l := ⟨_, rfl⟩
  obtain ⟨x2, hx2⟩ : ∃ x, x = nb 9007199254740991 x1.2.1 x1.2.2 := ⟨_, rfl⟩
  have HX := Lib.hid (show tkCe e l = (⟨zag x1.1, (x2.1 : Int)⟩, x2.2) by unfold tkCe nbS; simp only [← hx1, ← hx2])
  have HX1 := Lib.hid hx1
  have HX2 := Lib.hid hx2
  clear hx1 hx2
  have hgw := h.lt.2
  have hb1 := nx (bel1 w (.cells #[.pointer (some ⟨g, 0, none⟩)] 43)) (bel1 (w.alloc (.cells #[.pointer (some ⟨g, 0, none⟩)] 43)) (.cells #[.int .i64 0, .int .i64 0] 54))
  have HR0 := Lib.hid (h.below hb1)
  have HB1 := Lib.hid (blkB (heap_alloc_new w (.cells #[.pointer (some ⟨g, 0, none⟩)] 43)) (bel1 _ (.cells #[.int .i64 0, .int .i64 0] 54)))
  have hq2 := heap_alloc_new (w.alloc (.cells #[.pointer (some ⟨g, 0, none⟩)] 43)) (.cells #[.int .i64 0, .int .i64 0] 54)
  rw [World.size_alloc] at hq2
  have HB2 := Lib.hid hq2
  have HG0 := Lib.hid (grown_of_below hb1 (some g))
  clear h hq2 hb1
  go_enter Tryz.func23, Tryz.ntmps23
  go_wp2_with fail
  obtain ⟨W0, hW⟩ : ∃ W, W = (w.alloc (.cells #[.pointer (some ⟨g, 0, none⟩)] 43)).alloc (.cells #[.int .i64 0, .int .i64 0] 54) := ⟨_, rfl⟩
  rw [← hW] at HR0 HB1 HB2 HG0 ⊢
  clear hW
  obtain ⟨q2, hqq⟩ : ∃ q, q = w.heap.size + 1 := ⟨_, rfl⟩
  have HQ2 := Lib.hid hqq
  rw [← hqq] at HB2 ⊢
  clear hqq
  obtain ⟨q1, hqq⟩ : ∃ q, q = w.heap.size := ⟨_, rfl⟩
  have HQ1 := Lib.hid hqq
  rw [← hqq] at HB1 ⊢
  clear hqq
  have HN1 := Lib.hid (show q1 ≠ g by have := HQ1.out; omega)
  have HN2 := Lib.hid (show q2 ≠ g by have := HQ2.out; omega)
  have hn12 : q1 ≠ q2 := by have := HQ1.out; have := HQ2.out; omega
  have HLE := Lib.hid (show w.heap.size ≤ q2 by have := HQ2.out; omega)
  have HGQ := Lib.hid (show g < q2 by have := HQ2.out; omega)
  clear hgw
  have hc0 := cell_of HB1.out 0
  simp at hc0
  refine wp_region_held_drew (S := (fun w' => w'.cell? ⟨q1, 0, none⟩ = some (.pointer (some ⟨g, 0, none⟩)))) (by kernel_rfl) (by simpa using hc0) (fun hHeld => ?_)
  refine' take_val (i := 0) (d := 3) (v := _) rfl rfl (by kernel_rfl) (by kernel_rfl) (by kernel_rfl) (fun _ _ _ h => h) (by rfl) ?_ (by assumption) ?_
  rotate_left
  · (intro w hSw; (try dsimp only at hSw); go_simp; (try with_reducible rfl))
  (try simp only [Act.put, List.setIfInBounds_toArray, List.set_cons_zero, List.set_cons_succ])
  refine' take_val (i := 1) (d := 4) (v := _) rfl rfl (by kernel_rfl) (by kernel_rfl) (by kernel_rfl) (fun _ _ _ h => h) (by rfl) ?_ (by assumption) ?_
  rotate_left
  · (intro w hSw; (try dsimp only at hSw); go_simp; (try with_reducible rfl))
  (try simp only [Act.put, List.setIfInBounds_toArray, List.set_cons_zero, List.set_cons_succ])
  refine' take_val (i := 3) (d := 6) (v := _) rfl rfl (by kernel_rfl) (by kernel_rfl) (by kernel_rfl) (fun _ _ _ h => h) (by rfl) ?_ (by assumption) ?_
  rotate_left
  · (intro w hSw; (try dsimp only at hSw); go_simp; (try with_reducible rfl))
  (try simp only [Act.put, List.setIfInBounds_toArray, List.set_cons_zero, List.set_cons_succ])
  refine' take_val (i := 4) (d := 7) (v := _) rfl rfl (by kernel_rfl) (by kernel_rfl) (by kernel_rfl) (fun _ _ _ h => h) (by rfl) ?_ (by assumption) ?_
  rotate_left
  · (intro w hSw; (try dsimp only at hSw); go_simp; (try with_reducible rfl))
  (try simp only [Act.put, List.setIfInBounds_toArray, List.set_cons_zero, List.set_cons_succ])
  refine wpAnyH_ready (rs := [2]) (by kernel_rfl) (by simp) ?_
  refine AllReadyH.cons rfl (fun K hK => ?_) AllReadyH.nil
  go_simp
  go_at_call 71
  refine (rdS_any (HR0.out.below (bel0 _).drew)).mono ?_
  rw [← HX1.out]
  rintro r w1 ⟨rfl, hr, hg⟩
  have HR1 := Lib.hid hr
  have HG1 := Lib.hid hg
  have HT1 := Lib.hid (World.grownBy.trans (grown_of_below (bel0 _).drew _) hg)
  clear hr hg
  go_wp2_with fail
  refine hK.out _ _ (cellG hHeld HG1.out HN1.out) (fun hHeld => ?_)
  clear hK K
  (try simp only [Act.put, List.setIfInBounds_toArray, List.set_cons_zero, List.set_cons_succ])
  refine wpAnyH_ready (rs := [5]) (by kernel_rfl) (by simp) ?_
  refine AllReadyH.cons rfl (fun K hK => ?_) AllReadyH.nil
  go_simp
  go_at_call 19
  refine (rdU_any HR1.out).mono ?_
  rw [← HX2.out]
  rintro r w2 ⟨rfl, hr, hg⟩
  have HR2 := Lib.hid hr
  have HG2 := Lib.hid hg
  have HT2 := Lib.hid (World.grownBy.trans HT1.out hg)
  clear hr hg
  have hq := gblk HB2.out HT2.out HN2.out
  have d0 := cell_of hq 0
  have d1 := cell_of hq 1
  have f0 := frozen_of hq 0
  have f1 := frozen_of hq 1
  simp at d0 d1
  have HQB := Lib.hid hq
  clear hq
  go_wp2_with fail
  refine hK.out _ _ (cellG hHeld HG2.out HN1.out) (fun hHeld => ?_)
  clear hK K
  (try simp only [Act.put, List.setIfInBounds_toArray, List.set_cons_zero, List.set_cons_succ])
  refine' take_val (i := 6) (d := 9) (v := _) rfl rfl (by kernel_rfl) (by kernel_rfl) (by kernel_rfl) (fun _ _ _ h => h) (by rfl) ?_ (by assumption) ?_
  rotate_left
  · (intro w hSw; (try dsimp only at hSw); go_simp; (try with_reducible rfl))
  (try simp only [Act.put, List.setIfInBounds_toArray, List.set_cons_zero, List.set_cons_succ])
  refine wpAnyH_ready (rs := [7]) (by kernel_rfl) (by simp) ?_
  refine AllReadyH.cons rfl (fun K hK => ?_) AllReadyH.nil
  go_simp
  go_wp2_with fail
  refine hK.out _ _ (cellS (cellS hHeld hn12) hn12) (fun hHeld => ?_)
  clear hK K
  (try simp only [Act.put, List.setIfInBounds_toArray, List.set_cons_zero, List.set_cons_succ])
  refine wpAnyH_done (by kernel_rfl) ?_ _
  obtain ⟨W, hW⟩ : ∃ W, W = ((w2.setCell ⟨q2, 0, none⟩ (.int .i64 (zag x1.1))).setCell ⟨q2, 1, none⟩ (.int .i64 (x2.1 : Int))) := ⟨_, rfl⟩
  have HF := Lib.hid (show W.heap[q2]? = some (.cells #[.int .i64 (zag x1.1), .int .i64 (x2.1 : Int)] 54 (0, 0)) by rw [hW]; exact (heap_set (heap_set HQB.out 0 _) 1 _))
  have HRF := Lib.hid (show Rdr W lo g x2.2.1 x2.2.2 by rw [hW]; exact (rset (rset HR2.out HGQ.out 0 _) HGQ.out 1 _))
  have HGF := Lib.hid (show w.grownBy W (some g) by rw [hW]; exact (gset (gset (World.grownBy.trans HG0.out HT2.out) HLE.out) HLE.out))
  rw [← hW]
  clear hW hHeld d0 f0 d1 f1 hc0
  have d0 := cell_of HF.out 0
  have d1 := cell_of HF.out 1
  simp at d0 d1
  go_wp2_with fail
  refine bodyPost_ret (by simp [results, Tryz.results23, go_sem, d0, d1]; try rfl) rfl ?_
  rw [HX.out]
  exact ⟨rfl, HRF.out, HGF.out⟩
set_option maxHeartbeats 16000000 in
set_option maxRecDepth 100000 in
theorem rdedge_any {lo g : Nat} {e : Int} {l : List Nat} {w : World} (h : Rdr w lo g e l) :
    Calls Tryz.prog 25 #[.agg #[.pointer (some ⟨g, 0, none⟩)]] w fun r w' => r = .returned (tkEd e l).1.v ∧ Rdr w' lo g (tkEd e l).2.1 (tkEd e l).2.2 ∧ w.grownBy w' (some g) := by
  obtain ⟨x1, hx1⟩ : ∃ x, x = txt 24 e l := ⟨_, rfl⟩
  obtain ⟨x2, hx2⟩ : ∃ x, x = txt 24 x1.2.1 x1.2.2 := ⟨_, rfl⟩
  obtain ⟨x3, hx3⟩ : ∃ x, x = nb 9007199254740991 x2.2.1 x2.2.2 := ⟨_, rfl⟩
  have HX := Lib.hid (show tkEd e l = (⟨bs x1.1, bs x2.1, (x3.1 : Int)⟩, x3.2) by unfold tkEd; simp only [← hx1, ← hx2, ← hx3])
  have HX1 := Lib.hid hx1
  have HX2 := Lib.hid hx2
  have HX3 := Lib.hid hx3
  clear hx1 hx2 hx3
  have hgw := h.lt.2
  have hb1 := nx (bel1 w (.cells #[.pointer (some ⟨g, 0, none⟩)] 43)) (bel1 (w.alloc (.cells #[.pointer (some ⟨g, 0, none⟩)] 43)) (.cells #[.string ⟨#[]⟩, .string ⟨#[]⟩, .int .i64 0] 58))
  have HR0 := Lib.hid (h.below hb1)
  have HB1 := Lib.hid (blkB (heap_alloc_new w (.cells #[.pointer (some ⟨g, 0, none⟩)] 43)) (bel1 _ (.cells #[.string ⟨#[]⟩, .string ⟨#[]⟩, .int .i64 0] 58)))
  have hq2 := heap_alloc_new (w.alloc (.cells #[.pointer (some ⟨g, 0, none⟩)] 43)) (.cells #[.string ⟨#[]⟩, .string ⟨#[]⟩, .int .i64 0] 58)
  rw [World.size_alloc] at hq2
  have HB2 := Lib.hid hq2
  have HG0 := Lib.hid (grown_of_below hb1 (some g))
  clear h hq2 hb1
  go_enter Tryz.func25, Tryz.ntmps25
  go_wp2_with fail
  obtain ⟨W0, hW⟩ : ∃ W, W = (w.alloc (.cells #[.pointer (some ⟨g, 0, none⟩)] 43)).alloc (.cells #[.string ⟨#[]⟩, .string ⟨#[]⟩, .int .i64 0] 58) := ⟨_, rfl⟩
  rw [← hW] at HR0 HB1 HB2 HG0 ⊢
  clear hW
  obtain ⟨q2, hqq⟩ : ∃ q, q = w.heap.size + 1 := ⟨_, rfl⟩
  have HQ2 := Lib.hid hqq
  rw [← hqq] at HB2 ⊢
  clear hqq
  obtain ⟨q1, hqq⟩ : ∃ q, q = w.heap.size := ⟨_, rfl⟩
  have HQ1 := Lib.hid hqq
  rw [← hqq] at HB1 ⊢
  clear hqq
  have HN1 := Lib.hid (show q1 ≠ g by have := HQ1.out; omega)
  have HN2 := Lib.hid (show q2 ≠ g by have := HQ2.out; omega)
  have hn12 : q1 ≠ q2 := by have := HQ1.out; have := HQ2.out; omega
  have HLE := Lib.hid (show w.heap.size ≤ q2 by have := HQ2.out; omega)
  have HGQ := Lib.hid (show g < q2 by have := HQ2.out; omega)
  clear hgw
  have hc0 := cell_of HB1.out 0
  simp at hc0
  refine wp_region_held_drew (S := (fun w' => w'.cell? ⟨q1, 0, none⟩ = some (.pointer (some ⟨g, 0, none⟩)))) (by kernel_rfl) (by simpa using hc0) (fun hHeld => ?_)
  refine' take_val (i := 0) (d := 3) (v := _) rfl rfl (by kernel_rfl) (by kernel_rfl) (by kernel_rfl) (fun _ _ _ h => h) (by rfl) ?_ (by assumption) ?_
  rotate_left
  · (intro w hSw; (try dsimp only at hSw); go_simp; (try with_reducible rfl))
  (try simp only [Act.put, List.setIfInBounds_toArray, List.set_cons_zero, List.set_cons_succ])
  refine' take_val (i := 1) (d := 4) (v := _) rfl rfl (by kernel_rfl) (by kernel_rfl) (by kernel_rfl) (fun _ _ _ h => h) (by rfl) ?_ (by assumption) ?_
  rotate_left
  · (intro w hSw; (try dsimp only at hSw); go_simp; (try with_reducible rfl))
  (try simp only [Act.put, List.setIfInBounds_toArray, List.set_cons_zero, List.set_cons_succ])
  refine' take_val (i := 3) (d := 6) (v := _) rfl rfl (by kernel_rfl) (by kernel_rfl) (by kernel_rfl) (fun _ _ _ h => h) (by rfl) ?_ (by assumption) ?_
  rotate_left
  · (intro w hSw; (try dsimp only at hSw); go_simp; (try with_reducible rfl))
  (try simp only [Act.put, List.setIfInBounds_toArray, List.set_cons_zero, List.set_cons_succ])
  refine' take_val (i := 4) (d := 7) (v := _) rfl rfl (by kernel_rfl) (by kernel_rfl) (by kernel_rfl) (fun _ _ _ h => h) (by rfl) ?_ (by assumption) ?_
  rotate_left
  · (intro w hSw; (try dsimp only at hSw); go_simp; (try with_reducible rfl))
  (try simp only [Act.put, List.setIfInBounds_toArray, List.set_cons_zero, List.set_cons_succ])
  refine' take_val (i := 6) (d := 9) (v := _) rfl rfl (by kernel_rfl) (by kernel_rfl) (by kernel_rfl) (fun _ _ _ h => h) (by rfl) ?_ (by assumption) ?_
  rotate_left
  · (intro w hSw; (try dsimp only at hSw); go_simp; (try with_reducible rfl))
  (try simp only [Act.put, List.setIfInBounds_toArray, List.set_cons_zero, List.set_cons_succ])
  refine' take_val (i := 7) (d := 10) (v := _) rfl rfl (by kernel_rfl) (by kernel_rfl) (by kernel_rfl) (fun _ _ _ h => h) (by rfl) ?_ (by assumption) ?_
  rotate_left
  · (intro w hSw; (try dsimp only at hSw); go_simp; (try with_reducible rfl))
  (try simp only [Act.put, List.setIfInBounds_toArray, List.set_cons_zero, List.set_cons_succ])
  refine wpAnyH_ready (rs := [2]) (by kernel_rfl) (by simp) ?_
  refine AllReadyH.cons rfl (fun K hK => ?_) AllReadyH.nil
  go_simp
  go_at_call 69
  refine (rdText_any 24 (HR0.out.below (bel0 _).drew)).mono ?_
  rw [← HX1.out]
  rintro r w1 ⟨rfl, _, _, hr, hg⟩
  have HR1 := Lib.hid hr
  have HG1 := Lib.hid hg
  have HT1 := Lib.hid (World.grownBy.trans (grown_of_below (bel0 _).drew _) hg)
  clear hr hg
  go_wp2_with fail
  refine hK.out _ _ (cellG hHeld HG1.out HN1.out) (fun hHeld => ?_)
  clear hK K
  (try simp only [Act.put, List.setIfInBounds_toArray, List.set_cons_zero, List.set_cons_succ])
  refine wpAnyH_ready (rs := [5]) (by kernel_rfl) (by simp) ?_
  refine AllReadyH.cons rfl (fun K hK => ?_) AllReadyH.nil
  go_simp
  go_at_call 69
  refine (rdText_any 24 HR1.out).mono ?_
  rw [← HX2.out]
  rintro r w2 ⟨rfl, _, _, hr, hg⟩
  have HR2 := Lib.hid hr
  have HG2 := Lib.hid hg
  have HT2 := Lib.hid (World.grownBy.trans HT1.out hg)
  clear hr hg
  go_wp2_with fail
  refine hK.out _ _ (cellG hHeld HG2.out HN1.out) (fun hHeld => ?_)
  clear hK K
  (try simp only [Act.put, List.setIfInBounds_toArray, List.set_cons_zero, List.set_cons_succ])
  refine wpAnyH_ready (rs := [8]) (by kernel_rfl) (by simp) ?_
  refine AllReadyH.cons rfl (fun K hK => ?_) AllReadyH.nil
  go_simp
  go_at_call 19
  refine (rdU_any HR2.out).mono ?_
  rw [← HX3.out]
  rintro r w3 ⟨rfl, hr, hg⟩
  have HR3 := Lib.hid hr
  have HG3 := Lib.hid hg
  have HT3 := Lib.hid (World.grownBy.trans HT2.out hg)
  clear hr hg
  have hq := gblk HB2.out HT3.out HN2.out
  have d0 := cell_of hq 0
  have d1 := cell_of hq 1
  have d2 := cell_of hq 2
  have f0 := frozen_of hq 0
  have f1 := frozen_of hq 1
  have f2 := frozen_of hq 2
  simp at d0 d1 d2
  have HQB := Lib.hid hq
  clear hq
  go_wp2_with fail
  refine hK.out _ _ (cellG hHeld HG3.out HN1.out) (fun hHeld => ?_)
  clear hK K
  (try simp only [Act.put, List.setIfInBounds_toArray, List.set_cons_zero, List.set_cons_succ])
  refine' take_val (i := 9) (d := 12) (v := _) rfl rfl (by kernel_rfl) (by kernel_rfl) (by kernel_rfl) (fun _ _ _ h => h) (by rfl) ?_ (by assumption) ?_
  rotate_left
  · (intro w hSw; (try dsimp only at hSw); go_simp; (try with_reducible rfl))
  (try simp only [Act.put, List.setIfInBounds_toArray, List.set_cons_zero, List.set_cons_succ])
  refine wpAnyH_ready (rs := [10]) (by kernel_rfl) (by simp) ?_
  refine AllReadyH.cons rfl (fun K hK => ?_) AllReadyH.nil
  go_simp
  go_wp2_with fail
  refine hK.out _ _ (cellS (cellS (cellS hHeld hn12) hn12) hn12) (fun hHeld => ?_)
  clear hK K
  (try simp only [Act.put, List.setIfInBounds_toArray, List.set_cons_zero, List.set_cons_succ])
  refine wpAnyH_done (by kernel_rfl) ?_ _
  obtain ⟨W, hW⟩ : ∃ W, W = (((w3.setCell ⟨q2, 0, none⟩ (.string (bs x1.1))).setCell ⟨q2, 1, none⟩ (.string (bs x2.1))).setCell ⟨q2, 2, none⟩ (.int .i64 (x3.1 : Int))) := ⟨_, rfl⟩
  have HF := Lib.hid (show W.heap[q2]? = some (.cells #[.string (bs x1.1), .string (bs x2.1), .int .i64 (x3.1 : Int)] 58 (0, 0)) by rw [hW]; exact (heap_set (heap_set (heap_set HQB.out 0 _) 1 _) 2 _))
  have HRF := Lib.hid (show Rdr W lo g x3.2.1 x3.2.2 by rw [hW]; exact (rset (rset (rset HR3.out HGQ.out 0 _) HGQ.out 1 _) HGQ.out 2 _))
  have HGF := Lib.hid (show w.grownBy W (some g) by rw [hW]; exact (gset (gset (gset (World.grownBy.trans HG0.out HT3.out) HLE.out) HLE.out) HLE.out))
  rw [← hW]
  clear hW hHeld d0 f0 d1 f1 d2 f2 hc0
  have d0 := cell_of HF.out 0
  have d1 := cell_of HF.out 1
  have d2 := cell_of HF.out 2
  simp at d0 d1 d2
  go_wp2_with fail
  refine bodyPost_ret (by simp [results, Tryz.results25, go_sem, d0, d1, d2]; try rfl) rfl ?_
  rw [HX.out]
  exact ⟨rfl, HRF.out, HGF.out⟩
end Go.Proofs.YtfedgjahbmcpoaaGreat
/- reply's take, of Ce. No conditions. -/
set_option linter.unusedSimpArgs false
set_option linter.unusedVariables false
namespace Go.Proofs.YtfedgjahbmcpoaaGreat
open Go.RowKit

set_option maxHeartbeats 16000000 in
set_option maxRecDepth 100000 in
theorem rtakeCe_any {lo g : Nat} {e : Int} {l : List Nat} {w : World} (h : Rdr w lo g e l) :
    Calls Tryz.prog 22 #[.agg #[.pointer (some ⟨g, 0, none⟩)], .int .i64 20, .func (.func 23) #[.agg #[.pointer (some ⟨g, 0, none⟩)]] #[]] w fun r w' => ∃ v, r = .returned v ∧ EOwn ceO w' w.heap.size v (tkLm 20 tkCe e l).1 ∧ Rdr w' lo g (tkLm 20 tkCe e l).2.1 (tkLm 20 tkCe e l).2.2 ∧ w.grownBy w' (some g) := by
  obtain ⟨Y, hY⟩ : ∃ Y, Y = tkLm 20 tkCe e l := ⟨_, rfl⟩
  rw [← hY]
  unfold tkLm at hY
  have hlt := h.lt
  have hle := nb_le 9007199254740991 e l
  have HR0 := Lib.hid (h.below (bel1 w (.cells #[.pointer (some ⟨g, 0, none⟩)] 43)))
  have HB0 := Lib.hid (heap_alloc_new w (.cells #[.pointer (some ⟨g, 0, none⟩)] 43))
  have HG0 := Lib.hid (grown_of_below (bel1 w (.cells #[.pointer (some ⟨g, 0, none⟩)] 43)) (some g))
  obtain ⟨x1, hx1⟩ : ∃ x, x = nb 9007199254740991 e l := ⟨_, rfl⟩
  have HN1 := Lib.hid hx1
  rw [← hx1] at hY hle
  simp only at hY
  clear h hx1
  obtain ⟨N, e0, l1⟩ := x1
  simp only at hY hle
  obtain ⟨e1, he1⟩ : ∃ e1, e1 = (if 20 < N then failE e0 270 else e0) := ⟨_, rfl⟩
  rw [← he1] at hY
  have hM : e1 = 0 → N ≤ 20 := by
    intro h0
    rw [h0] at he1
    split at he1
    · exact absurd he1.symm (failE_no e0)
    · omega
  have HY := Lib.hid hY
  have HE1 := Lib.hid he1
  have HM := Lib.hid hM
  have HW := Lib.hid (show w.heap.size ≠ g by omega)
  have HGL := Lib.hid hlt.2
  have hlg := hlt.2
  clear hY he1 hM hlt
  by_cases hN : 20 < N
  · have zN : (20 : Int) < (N : Int) := by omega
    have hee : e1 = failE e0 270 := HE1.out.trans (if_pos hN)
    have hne : e1 ≠ 0 := fun h => by have := HM.out h; omega
    have HX1 := Lib.hid (HY.out.trans (tkM_stop tkCe N hne l1))
    have HEE := Lib.hid hee
    have hne' : (e1 == 0) = false := by simp; exact hne
    have c0 := cell_of HB0.out 0
    simp at c0
    clear hee HY hN hne
    go_enter Tryz.func22, Tryz.ntmps22
    go_wp2_with fail
    refine (rdU_any HR0.out).mono ?_
    rw [← HN1.out]
    rintro r w1 ⟨rfl, hr, hg⟩
    simp only at hr ⊢
    have R1 := Lib.hid hr
    have G1 := Lib.hid (HG0.out.trans hg)
    have HB1 := Lib.hid (gblk HB0.out hg HW.out)
    have c0 := cell_of HB1.out 0
    simp at c0
    clear hr hg
    go_wp2_with fail
    refine (Fail_any 270 R1.out).mono ?_
    rintro r w2 ⟨rfl, hr, hg⟩
    rw [show (if e0 = 0 then (270 : Int) else e0) = e1 by rw [HEE.out]; rfl] at hr
    have R2 := Lib.hid hr
    have G2 := Lib.hid (G1.out.trans hg)
    have HB2 := Lib.hid (gblk HB1.out hg HW.out)
    have zN0 : (0 : Int) < (N : Int) := by omega
    have zN1 : 0 < N := by omega
    clear hr hg
    have c2 := cell_of HB2.out 0
    simp at c2
    go_wp2_with fail
    refine wp_loop_rounds 1 ?_
    rw [rounds_succ]
    go_wp2_with fail
    refine (Err_any R2.out).mono ?_
    rintro r w3 ⟨rfl, rfl⟩
    go_wp2_with fail
    go_ret
    rw [HX1.out]
    exact ⟨_, rfl, EOwn.nil _ _, R2.out, G2.out⟩
  · have zN : ¬ (20 : Int) < (N : Int) := by omega
    have hee : e1 = e0 := HE1.out.trans (if_neg hN)
    subst hee
    have c0 := cell_of HB0.out 0
    simp at c0
    go_enter Tryz.func22, Tryz.ntmps22
    go_wp2_with fail
    refine (rdU_any HR0.out).mono ?_
    rw [← HN1.out]
    rintro r w1 ⟨rfl, hr, hg⟩
    simp only at hr ⊢
    have R1 := Lib.hid hr
    have G1 := Lib.hid (HG0.out.trans hg)
    have HB1 := Lib.hid (gblk HB0.out hg HW.out)
    clear hr hg c0
    go_wp2_with fail
    go_loopw [7, 8] (fun i o wr => ∃ (m : Nat) (Q : List Cel) (e' : Int) (l' : List Nat), i = .int .i64 (m : Int) ∧ Q.length + m = N ∧ Hid (EOwn ceO wr w.heap.size o Q) ∧ Hid (Rdr wr lo g e' l') ∧ Hid (w.grownBy wr (some g)) ∧ Hid (Y = (Q ++ (tkM tkCe m e' l').1, (tkM tkCe m e' l').2)) ∧ Hid (wr.heap[w.heap.size]? = some (.cells #[.pointer (some ⟨g, 0, none⟩)] 43 (0, 0)))) (fun i _ _ => (intOf i).toNat)
    case atStart => exact ⟨N, [], e1, l1, rfl, by simp, Lib.hid (EOwn.nil _ _), R1, G1, Lib.hid (by rw [HY.out]; simp), HB1⟩
    case round =>
      clear R1 G1 HB1
      obtain ⟨m, Q, e', l', rfl, hQm, HO, HR, HG, HT, HB⟩ := hrel
      have c0 := cell_of HB.out 0
      simp at c0
      obtain ⟨Ao, co, eo⟩ := HO.out.len
      subst eo
      by_cases hm : m = 0
      · subst hm
        have HX1 := Lib.hid (show Y = (Q, e', l') by rw [HT.out]; simp [tkM])
        go_wp2_with fail
        go_ret
        rw [HX1.out]
        exact ⟨_, rfl, HO.out, HR.out, HG.out⟩
      · obtain ⟨m', hm'⟩ : ∃ m', m = m' + 1 := ⟨m - 1, by omega⟩
        have zm : (0 : Int) < (m : Int) := by omega
        have zm1 : 0 < m := by omega
        have zm2 : (m : Int) - 1 = (m' : Int) := by omega
        by_cases he : e' = 0
        · subst he
          have hT := HT.out
          rw [hm'] at hT
          unfold tkM at hT
          rw [if_pos rfl] at hT
          have TA0 := rdcell_any HR.out
          obtain ⟨x3, hx3⟩ : ∃ x, x = tkCe 0 l' := ⟨_, rfl⟩
          skip
          rw [← hx3] at hT TA0
          clear hx3
          obtain ⟨x, e2, l2⟩ := x3
          simp only at hT TA0
          unfold Cel.v at TA0
          have TA := Lib.hid TA0
          have HT2 := Lib.hid hT
          have hP8 : Q.length ≤ 1000000000 := by omega
          clear hT TA0 HT
          go_wp2_with fail
          refine (Err_any HR.out).mono ?_
          rintro r w3 ⟨rfl, rfl⟩
          go_wp2_with fail
          refine TA.out.mono ?_
          rintro r w4 ⟨rfl, hr, hg⟩
          skip
          skip
          have R4 := Lib.hid (hr.below (bel1 w4 (.cells #[.int .i64 x.at', .int .i64 x.ct] 54)))
          have O4 := Lib.hid ((HO.out.grown hg (fun k hk => by injection hk with hk; omega)).below (bel1 w4 (.cells #[.int .i64 x.at', .int .i64 x.ct] 54)))
          have G4 := Lib.hid ((HG.out.trans hg).trans (grown_of_below (bel1 w4 (.cells #[.int .i64 x.at', .int .i64 x.ct] 54)) (some g)))
          have BN := Lib.hid (heap_alloc_new w4 (.cells #[.int .i64 x.at', .int .i64 x.ct] 54))
          have HB4 := Lib.hid (blkB (gblk HB.out hg HW.out) (bel1 w4 (.cells #[.int .i64 x.at', .int .i64 x.ct] 54)))
          clear hr hg  c0
          go_wp2_with (at_builtin; refine append_el (O := ceO) rfl _ _ 26 _ _ rfl Tryz.underlying26 infoCe rfl (by decide) w.heap.size _ Q x _ rfl O4.out rfl _ rfl _ BN.out (by omega) G4.out.size ?_; intro v5 w5 ho5 hg5)
          have HO5 := Lib.hid ho5
          have R5 := Lib.hid (R4.out.grown hg5 (fun k hk => by have := O4.out.block k hk; omega))
          have G5 := Lib.hid (gown G4.out hg5 O4.out.block)
          have HB5 := Lib.hid ((hg5.block _ (Array.getElem?_eq_some_iff.1 HB4.out).1 (fun e => O4.out.ne2 HB4.out (by decide) e.symm)).trans HB4.out)
          clear ho5 hg5
          go_wp2_with fail
          exact ⟨⟨m', Q ++ [x], e2, l2, by go_num, by rw [List.length_append]; simp; omega, HO5, R5, G5, Lib.hid (by rw [HT2.out]; simp), HB5⟩, by simp [intOf]; omega⟩
        · have he' : (e' == 0) = false := by simp; exact he
          have HX1 := Lib.hid (show Y = (Q, e', l') by rw [HT.out, tkM_stop tkCe m he]; simp)
          clear hm'
          go_wp2_with fail
          refine (Err_any HR.out).mono ?_
          rintro r w3 ⟨rfl, rfl⟩
          go_wp2_with fail
          go_ret
          rw [HX1.out]
          exact ⟨_, rfl, HO.out, HR.out, HG.out⟩
end Go.Proofs.YtfedgjahbmcpoaaGreat
