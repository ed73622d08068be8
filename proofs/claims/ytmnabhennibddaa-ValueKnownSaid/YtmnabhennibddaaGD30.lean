/- Lemmas for the law ValueKnown: readers that are none, rows of bytes and of attributes, what may not be. No conditions. -/
import Derived.Test.YtmnabhennibddaaGD28
import Derived.Test.YtmnabhennibddaaGD29
import Derived.Test.YtmnabhennibddaaGD04
import Derived.Lib.AppendZerosOnto
set_option linter.unusedSimpArgs false
set_option linter.unusedVariables false
namespace Go.Proofs.Ytmnabhennibddaa
open Go.RowKit

theorem exec_build {P : Program} {f : Operand → Value} {o : Oper} {t : TypeId} {parts : Array (Nat × Operand)} {vals : Array (Nat × Value)} {v : Value} {w : World} (ho : o.op = .build t parts) (hv : parts.map (fun (i, x) => (i, f x)) = vals) (h : (Instr.build t vals).run P w = .ok v w) : (execOp f o).run P w = .ok (.value v) w := by
  unfold execOp
  simp only [ho, hv, Sem.run_bind, h, Result.andThen_ok, Sem.run_pure]
theorem exec_buildSlice {P : Program} {f : Operand → Value} {o : Oper} {t : TypeId} {n : Nat} {parts : Array (Nat × Operand)} {vals : Array (Nat × Value)} {v : Value} {w w' : World} (ho : o.op = .buildSlice t n parts) (hv : parts.map (fun (i, x) => (i, f x)) = vals) (h : (Instr.buildSlice t n vals).run P w = .ok v w') : (execOp f o).run P w = .ok (.value v) w' := by
  unfold execOp
  simp only [ho, hv, Sem.run_bind, h, Result.andThen_ok, Sem.run_pure]
theorem wp_run {P : Program} {o : Oper} {a : Act} {w w' : World} {K : Act → World → Prop} {Q : Exit → Act → World → Prop} {v : Value} (h : (execOp a.eval o).run P w = .ok (.value v) w') (hk : K (a.put o.dst v) w') : o.wp P a w K Q := by
  unfold Oper.wp
  rw [h]
  exact hk
theorem wpList_bs {P : Program} {ops : Array Oper} {rest : List Oper} {o : Oper} {a : Act} {w w' : World} {Q : Exit → Act → World → Prop} (hgd : o.guard = none) (t : TypeId) (n : Nat) (parts : Array (Nat × Operand)) (ho : o.op = .buildSlice t n parts) (vals : Array (Nat × Value)) (v : Value) (hv : parts.map (fun (i, x) => (i, a.eval x)) = vals) (h : (Instr.buildSlice t n vals).run P w = .ok v w') (k : wpList P ops Q rest (a.put o.dst v) w') : wpList P ops Q (o :: rest) a w :=
  wpList_plain hgd fun _ hK => wp_run (exec_buildSlice ho hv h) (hK _ _ k)
theorem wpList_bd {P : Program} {ops : Array Oper} {rest : List Oper} {o : Oper} {a : Act} {w : World} {Q : Exit → Act → World → Prop} (hgd : o.guard = none) (t : TypeId) (parts : Array (Nat × Operand)) (ho : o.op = .build t parts) (vals : Array (Nat × Value)) (v : Value) (hv : parts.map (fun (i, x) => (i, a.eval x)) = vals) (h : (Instr.build t vals).run P w = .ok v w) (k : wpList P ops Q rest (a.put o.dst v) w) : wpList P ops Q (o :: rest) a w :=
  wpList_plain hgd fun _ hK => wp_run (exec_build ho hv h) (hK _ _ k)
theorem bel1' (w : World) (o : Obj) : Below w.heap.size w (w.alloc o) := (bel0 w).alloc (Nat.le_refl _) o
theorem blk_obj {w w' : World} {q : Nat} {o : Obj} (h : w.heap[q]? = some o) (hb : Below w.heap.size w w') : w'.heap[q]? = some o := (hb.block _ (Array.getElem?_eq_some_iff.1 h).1).trans h
theorem blk_cellV {w W : World} {p : Addr} {v : Value} (hb : Below w.heap.size w W) (h : w.cell? p = some v) : W.cell? p = some v := (hb.cell (World.block_lt_of_cell? w _ h)).trans h
theorem none_nil (w : World) : Calls Try.prog 55 #[.pointer none] w fun r w' => r = .returned (.bool true) ∧ w = w' := by
  go_enter Try.func55, Try.ntmps55
  go_wp2
  go_ret
  exact ⟨rfl, rfl⟩
theorem u_nil (w : World) : Calls Try.prog 50 #[.pointer none] w fun r w' => r = .returned (.int .i64 0) ∧ w = w' := by
  go_enter Try.func50, Try.ntmps50
  go_wp2_with fail
  refine (none_nil _).mono ?_
  rintro e w' ⟨rfl, rfl⟩
  go_wp2_with fail
  go_ret
  exact ⟨rfl, rfl⟩
theorem err_nil (w : World) : Calls Try.prog 24 #[.pointer none] w fun r w' => r = .returned (.int .i64 1) ∧ w = w' := by
  go_enter Try.func24, Try.ntmps24
  go_wp2_with fail
  refine (none_nil _).mono ?_
  rintro e w' ⟨rfl, rfl⟩
  go_wp2_with fail
  go_ret
  exact ⟨rfl, rfl⟩
theorem fail_nil (k : Int) (w : World) : Calls Try.prog 53 #[.pointer none, .int .i64 k] w fun r w' => r = .returned (.tuple #[]) ∧ w = w' := by
  go_enter Try.func53, Try.ntmps53
  go_wp2_with fail
  refine (none_nil _).mono ?_
  rintro e w' ⟨rfl, rfl⟩
  go_wp2_with fail
  go_end0
  exact ⟨rfl, rfl⟩
theorem chk_zero : chkV ⟨0, 0, ⟨#[]⟩⟩ = 80 := by decide +kernel
set_option maxHeartbeats 4000000 in
theorem take_nil (w : World) : Calls Try.prog 23 #[.pointer none] w fun r w' => r = .returned (.agg #[.int .i64 0, .int .i64 0, .string ⟨#[]⟩]) ∧ Below w.heap.size w w' := by
  have HC := Lib.hid (show ∀ w, Calls Try.prog 18 #[.agg #[.int .i64 0, .int .i64 0, .string ⟨#[]⟩]] w fun e w' => e = .returned (.int .i64 80) ∧ Below w.heap.size w w' from fun w => by have := check_any ⟨0, 0, ⟨#[]⟩⟩ w; rw [chk_zero] at this; exact this)
  go_enter Try.func23, Try.ntmps23
  have hq := heap_alloc_new w (.cells #[.int .i64 0, .int .i64 0, .string ⟨#[]⟩] 42)
  go_upto_region 1 with (fail)
  obtain ⟨W, hW⟩ : ∃ W, W = w.alloc (.cells #[.int .i64 0, .int .i64 0, .string ⟨#[]⟩] 42) := ⟨_, rfl⟩
  have hb0 : Below w.heap.size w W := by rw [hW]; exact bel1' _ _
  rw [← hW] at hq ⊢
  obtain ⟨q, hqq⟩ : ∃ q, q = w.heap.size := ⟨_, rfl⟩
  rw [← hqq] at hq hb0 ⊢
  have hqw : q ≤ q := Nat.le_refl _
  have HQ := Lib.hid hqq
  clear hW hqq
  have d0 := cell_of hq 0
  have d1 := cell_of hq 1
  have d2 := cell_of hq 2
  have f0 := frozen_of hq 0
  simp at d0 d1 d2
  go_wp2_with fail
  refine (u_nil _).mono ?_
  rintro e w' ⟨rfl, rfl⟩
  go_upto_region 2 with (fail)
  have hq2 : (W.setCell ⟨q, 0, none⟩ (.int .i64 0)).heap[q]? = some (.cells #[.int .i64 0, .int .i64 0, .string ⟨#[]⟩] 42 (0, 0)) := heap_set hq 0 _
  have hb2 := hb0.setCell (p := ⟨q, 0, none⟩) hqw (.int .i64 0)
  obtain ⟨W2, hW⟩ : ∃ W2, W2 = W.setCell ⟨q, 0, none⟩ (.int .i64 0) := ⟨_, rfl⟩
  rw [← hW] at hq2 hb2 ⊢
  clear hW d0 d1 d2 f0 hq hb0
  have d0 := cell_of hq2 0
  have d1 := cell_of hq2 1
  have d2 := cell_of hq2 2
  simp at d0 d1 d2
  go_wp2_with fail
  refine (HC.out _).mono ?_
  rintro e w3 ⟨rfl, hb3⟩
  have hqq2 := (Array.getElem?_eq_some_iff.1 hq2).1
  have hq3 := (hb3.block q hqq2).trans hq2
  have hb4 := hb2.trans (hb3.mono (Nat.le_of_lt hqq2))
  clear hb3 hb2 hq2 d0 d1 d2 hqq2
  go_wp2_with fail
  refine (wrong_any _ _).mono ?_
  rintro e w' ⟨rfl, rfl⟩
  go_wp2_with fail
  refine (fail_nil _ _).mono ?_
  rintro e w' ⟨rfl, rfl⟩
  go_wp2_with fail
  refine (err_nil _).mono ?_
  rintro e w' ⟨rfl, rfl⟩
  have B3 : BV w3 q ⟨0, 0, ⟨#[]⟩⟩ := hq3
  have HB3 := Lib.hid B3
  obtain ⟨c0, c1, c2⟩ := B3.cells
  obtain ⟨z0, z1, z2⟩ := B3.thaw
  clear hq3 B3
  go_wp2_with fail
  obtain ⟨W9, hW⟩ : ∃ W9, W9 = ((w3.setCell ⟨q, 0, none⟩ (.int .i64 0)).setCell ⟨q, 1, none⟩ (.int .i64 0)).setCell ⟨q, 2, none⟩ (.string ⟨#[]⟩) := ⟨_, rfl⟩
  have BW : BV W9 q ⟨0, 0, ⟨#[]⟩⟩ := by rw [hW]; exact ((HB3.out.set0 0).set1 0).set2 ⟨#[]⟩
  have hb9 := ((hb4.setCell (p := ⟨q, 0, none⟩) hqw (.int .i64 0)).setCell (p := ⟨q, 1, none⟩) hqw (.int .i64 0)).setCell (p := ⟨q, 2, none⟩) hqw (.string ⟨#[]⟩)
  rw [← hW] at hb9 ⊢
  clear hW
  obtain ⟨d0, d1, d2⟩ := BW.cells
  refine bodyPost_ret (by simp [results, Try.results23, go_sem, d0, d1, d2]; try rfl) rfl ?_
  rw [HQ.out] at hb9
  exact ⟨rfl, hb9⟩
set_option maxHeartbeats 4000000 in
theorem list_nil (F : Value) (w : World) : Calls Try.prog 56 #[.pointer none, .int .i64 8, F] w fun r w' => r = .returned (.slice none 0 0) ∧ w = w' := by
  go_enter Try.func56, Try.ntmps56
  go_wp2_with fail
  refine (u_nil _).mono ?_
  rintro e w' ⟨rfl, rfl⟩
  go_wp2_with fail
  refine wp_loop_rounds 1 ?_
  rw [rounds_succ]
  go_wp2_with fail
  go_ret
  exact ⟨rfl, rfl⟩
set_option maxHeartbeats 4000000 in
theorem takeAs_nil (w : World) : Calls Try.prog 25 #[.pointer none] w fun r w' => r = .returned (.slice none 0 0) ∧ Below w.heap.size w w' := by
  go_enter Try.func25, Try.ntmps25
  have hq := heap_alloc_new w (.cells #[.pointer none] 53)
  have hb0 := bel1' w (.cells #[.pointer none] 53)
  go_upto_region 1 with (fail)
  obtain ⟨W, hW⟩ : ∃ W, W = w.alloc (.cells #[.pointer none] 53) := ⟨_, rfl⟩
  rw [← hW] at hq hb0 ⊢
  obtain ⟨q, hqq⟩ : ∃ q, q = w.heap.size := ⟨_, rfl⟩
  rw [← hqq] at hq ⊢
  have HQ := Lib.hid hq
  have HB := Lib.hid hb0
  clear hW hqq
  have d0 : W.cell? ⟨q, 0, none⟩ = some (.pointer none) := cell_of hq 0
  clear hq hb0
  go_wp2_with fail
  refine (list_nil _ _).mono ?_
  rintro e w' ⟨rfl, rfl⟩
  have HM := Lib.hid (show ∀ w : World, Calls Try.prog 46 #[.slice none 0 0] w fun e w' => e = .returned (.int .i64 0) ∧ Below w.heap.size w w' from fun w => by have h := may_any (w := w) (A := none) (n := 0) (c := 0) (l := []) ⟨rfl, Nat.le_refl _, fun _ => rfl, Lies.nil _ _, (by intro a ha; cases ha), by decide⟩; rw [show mayA [] = 0 from by decide +kernel] at h; exact h)
  go_upto_region 2 with (fail)
  have hd0 := blk_cellV (bel0 W).drew d0
  have HBd := Lib.hid (nx HB.out (bel0 W).drew)
  refine wp_region_held_drew (S := (fun w' => w'.cell? ⟨q, 0, none⟩ = some (.pointer none) ∧ Below w.heap.size w w')) (by kernel_rfl) ⟨hd0, HBd.out⟩ (fun hHeld => ?_)
  refine' take_val (i := 0) (d := 7) (v := _) rfl rfl (by kernel_rfl) (by kernel_rfl) (by kernel_rfl) (fun _ _ _ h => h) (by rfl) ?_ (by assumption) ?_
  rotate_left
  · (intro w hSw; (try dsimp only at hSw); go_simp; (try with_reducible rfl))
  (try simp only [Act.put, List.setIfInBounds_toArray, List.set_cons_zero, List.set_cons_succ])
  refine' take_val (i := 1) (d := 8) (v := _) rfl rfl (by kernel_rfl) (by kernel_rfl) (by kernel_rfl) (fun _ _ _ h => h) (by rfl) ?_ (by assumption) ?_
  rotate_left
  · (intro w hSw; (try dsimp only at hSw); go_simp; (try with_reducible rfl))
  (try simp only [Act.put, List.setIfInBounds_toArray, List.set_cons_zero, List.set_cons_succ])
  refine wpAnyH_ready (rs := [2]) (by kernel_rfl) (by simp) ?_
  refine AllReadyH.cons rfl (fun K hK => ?_) AllReadyH.nil
  go_simp
  go_at_call 46
  refine (HM.out _).mono ?_
  rintro e w4 ⟨rfl, hb4⟩
  have hHc := blk_cellV hb4 hHeld.1
  have hHb := nx hHeld.2 hb4
  go_wp2_with fail
  refine hK.out _ _ (by exact ⟨hHc, hHb⟩) (fun hHeld => ?_)
  clear hK K
  (try simp only [Act.put, List.setIfInBounds_toArray, List.set_cons_zero, List.set_cons_succ])
  refine wpAnyH_ready (rs := [3]) (by kernel_rfl) (by simp) ?_
  refine AllReadyH.cons rfl (fun K hK => ?_) AllReadyH.nil
  go_simp
  go_at_call 54
  refine (wrong_any _ _).mono ?_
  rintro e w5 ⟨rfl, rfl⟩
  go_wp2_with fail
  refine hK.out _ _ hHeld (fun hHeld => ?_)
  clear hK K
  (try simp only [Act.put, List.setIfInBounds_toArray, List.set_cons_zero, List.set_cons_succ])
  refine wpAnyH_ready (rs := [4]) (by kernel_rfl) (by simp) ?_
  refine AllReadyH.cons rfl (fun K hK => ?_) AllReadyH.nil
  go_simp
  go_at_call 53
  refine (fail_nil _ _).mono ?_
  rintro e w6 ⟨rfl, rfl⟩
  go_wp2_with fail
  refine hK.out _ _ hHeld (fun hHeld => ?_)
  clear hK K
  (try simp only [Act.put, List.setIfInBounds_toArray, List.set_cons_zero, List.set_cons_succ])
  refine wpAnyH_done (by kernel_rfl) ?_ _
  obtain ⟨hc7, hb7⟩ := hHeld
  go_wp2_with fail
  refine (err_nil _).mono ?_
  rintro e w7 ⟨rfl, rfl⟩
  go_wp2_with fail
  go_ret
  exact ⟨rfl, hb7⟩
/-- Rows of bytes in a block, each filling its own. -/
structure Rws (W : World) (g : Nat) (ls : List (List Nat)) : Prop where
  at' : ∀ i (h : i < ls.length), ∃ b, W.cell? ⟨g, i, none⟩ = some (.slice (some ⟨b, 0, none⟩) ls[i].length ls[i].length) ∧ BS W (some ⟨b, 0, none⟩) ls[i].length ls[i].length ls[i]
theorem Rws.below {W W' : World} {g : Nat} {ls : List (List Nat)} (h : Rws W g ls) (hb : Below W.heap.size W W') : Rws W' g ls := ⟨fun i hi => by
  obtain ⟨b, h1, h2⟩ := h.at' i hi
  exact ⟨b, blk_cellV hb h1, h2.below hb⟩⟩
theorem bs_new (w : World) (l : List Nat) (hb : Byt l) (hl : l.length ≤ 1000) : BS (w.alloc (.cells (bv l).toArray 5)) (some ⟨w.heap.size, 0, none⟩) l.length l.length l := BS.alloc w l 5 (0, 0) hb (by omega)
def lay (w : World) (l : List Nat) : World := w.alloc (.cells (bv l).toArray 5)
theorem rws4 (w : World) (a b c d : List Nat) (ha : Byt a) (hb : Byt b) (hc : Byt c) (hd : Byt d) (hl : a.length ≤ 1000 ∧ b.length ≤ 1000 ∧ c.length ≤ 1000 ∧ d.length ≤ 1000) :
    Rws ((lay (lay (lay (lay w a) b) c) d).alloc (.cells #[.slice (some ⟨w.heap.size, 0, none⟩) a.length a.length, .slice (some ⟨w.heap.size + 1, 0, none⟩) b.length b.length, .slice (some ⟨w.heap.size + 1 + 1, 0, none⟩) c.length c.length, .slice (some ⟨w.heap.size + 1 + 1 + 1, 0, none⟩) d.length d.length] 22)) (w.heap.size + 1 + 1 + 1 + 1) [a, b, c, d] ∧
    Below w.heap.size w ((lay (lay (lay (lay w a) b) c) d).alloc (.cells #[.slice (some ⟨w.heap.size, 0, none⟩) a.length a.length, .slice (some ⟨w.heap.size + 1, 0, none⟩) b.length b.length, .slice (some ⟨w.heap.size + 1 + 1, 0, none⟩) c.length c.length, .slice (some ⟨w.heap.size + 1 + 1 + 1, 0, none⟩) d.length d.length] 22)) := by
  have s1 : (lay w a).heap.size = w.heap.size + 1 := World.size_alloc ..
  have s2 : (lay (lay w a) b).heap.size = w.heap.size + 1 + 1 := by rw [← s1]; exact World.size_alloc ..
  have s3 : (lay (lay (lay w a) b) c).heap.size = w.heap.size + 1 + 1 + 1 := by rw [← s2]; exact World.size_alloc ..
  have s4 : (lay (lay (lay (lay w a) b) c) d).heap.size = w.heap.size + 1 + 1 + 1 + 1 := by rw [← s3]; exact World.size_alloc ..
  have h1 := bs_new w a ha hl.1
  have h2 := bs_new (lay w a) b hb hl.2.1
  have h3 := bs_new (lay (lay w a) b) c hc hl.2.2.1
  have h4 := bs_new (lay (lay (lay w a) b) c) d hd hl.2.2.2
  rw [s1] at h2
  rw [s2] at h3
  rw [s3] at h4
  have g1 := ((h1.below (bel1' (lay w a) (.cells (bv b).toArray 5))).below (bel1' (lay (lay w a) b) (.cells (bv c).toArray 5))).below (bel1' (lay (lay (lay w a) b) c) (.cells (bv d).toArray 5))
  have g2 := (h2.below (bel1' (lay (lay w a) b) (.cells (bv c).toArray 5))).below (bel1' (lay (lay (lay w a) b) c) (.cells (bv d).toArray 5))
  have g3 := h3.below (bel1' (lay (lay (lay w a) b) c) (.cells (bv d).toArray 5))
  have hR := heap_alloc_new (lay (lay (lay (lay w a) b) c) d) (.cells #[.slice (some ⟨w.heap.size, 0, none⟩) a.length a.length, .slice (some ⟨w.heap.size + 1, 0, none⟩) b.length b.length, .slice (some ⟨w.heap.size + 1 + 1, 0, none⟩) c.length c.length, .slice (some ⟨w.heap.size + 1 + 1 + 1, 0, none⟩) d.length d.length] 22)
  rw [s4] at hR
  refine ⟨⟨fun i hi => ?_⟩, nx (nx (nx (nx (bel1' w _) (bel1' (lay w a) _)) (bel1' (lay (lay w a) b) _)) (bel1' (lay (lay (lay w a) b) c) _)) (bel1' _ _)⟩
  have hi4 : i < 4 := by simpa using hi
  match i, hi4 with
  | 0, _ => exact ⟨_, cell_of hR 0, BS.below g1 (bel1' _ _)⟩
  | 1, _ => exact ⟨_, cell_of hR 1, BS.below g2 (bel1' _ _)⟩
  | 2, _ => exact ⟨_, cell_of hR 2, BS.below g3 (bel1' _ _)⟩
  | 3, _ => exact ⟨_, cell_of hR 3, BS.below h4 (bel1' _ _)⟩
theorem bsl_w0 (w : World) : (Instr.buildSlice 22 1 #[(0, .int .u8 0)]).run Try.prog w = .ok (.slice (some ⟨w.heap.size, 0, none⟩) 1 1) (w.alloc (.cells #[.int .u8 0] 5)) := by kernel_rfl
theorem bsl_w1 (w : World) : (Instr.buildSlice 22 2 #[(0, .int .u8 4), (1, .int .u8 0)]).run Try.prog w = .ok (.slice (some ⟨w.heap.size, 0, none⟩) 2 2) (w.alloc (.cells #[.int .u8 4, .int .u8 0] 5)) := by kernel_rfl
theorem bsl_w2 (w : World) : (Instr.buildSlice 22 2 #[(0, .int .u8 3), (1, .int .u8 2)]).run Try.prog w = .ok (.slice (some ⟨w.heap.size, 0, none⟩) 2 2) (w.alloc (.cells #[.int .u8 3, .int .u8 2] 5)) := by kernel_rfl
theorem bsl_w3 (w : World) : (Instr.buildSlice 22 2 #[(0, .int .u8 2), (1, .int .u8 65)]).run Try.prog w = .ok (.slice (some ⟨w.heap.size, 0, none⟩) 2 2) (w.alloc (.cells #[.int .u8 2, .int .u8 65] 5)) := by kernel_rfl
theorem bsl_l0 (w : World) : (Instr.buildSlice 22 1 #[(0, .int .u8 9)]).run Try.prog w = .ok (.slice (some ⟨w.heap.size, 0, none⟩) 1 1) (w.alloc (.cells #[.int .u8 9] 5)) := by kernel_rfl
theorem bsl_l1 (w : World) : (Instr.buildSlice 22 13 #[(0, .int .u8 2), (1, .int .u8 1), (2, .int .u8 98), (3, .int .u8 0), (4, .int .u8 0), (5, .int .u8 3), (6, .int .u8 0), (7, .int .u8 1), (8, .int .u8 97), (9, .int .u8 0), (10, .int .u8 0), (11, .int .u8 3), (12, .int .u8 0)]).run Try.prog w = .ok (.slice (some ⟨w.heap.size, 0, none⟩) 13 13) (w.alloc (.cells #[.int .u8 2, .int .u8 1, .int .u8 98, .int .u8 0, .int .u8 0, .int .u8 3, .int .u8 0, .int .u8 1, .int .u8 97, .int .u8 0, .int .u8 0, .int .u8 3, .int .u8 0] 5)) := by kernel_rfl
theorem bsl_l2 (w : World) : (Instr.buildSlice 22 7 #[(0, .int .u8 1), (1, .int .u8 1), (2, .int .u8 65), (3, .int .u8 0), (4, .int .u8 0), (5, .int .u8 3), (6, .int .u8 0)]).run Try.prog w = .ok (.slice (some ⟨w.heap.size, 0, none⟩) 7 7) (w.alloc (.cells #[.int .u8 1, .int .u8 1, .int .u8 65, .int .u8 0, .int .u8 0, .int .u8 3, .int .u8 0] 5)) := by kernel_rfl
theorem bsl_l3 (w : World) : (Instr.buildSlice 22 7 #[(0, .int .u8 1), (1, .int .u8 1), (2, .int .u8 97), (3, .int .u8 8), (4, .int .u8 0), (5, .int .u8 3), (6, .int .u8 0)]).run Try.prog w = .ok (.slice (some ⟨w.heap.size, 0, none⟩) 7 7) (w.alloc (.cells #[.int .u8 1, .int .u8 1, .int .u8 97, .int .u8 8, .int .u8 0, .int .u8 3, .int .u8 0] 5)) := by kernel_rfl
theorem bsl_row (w : World) (a1 a2 a3 a4 : Addr) (n1 n2 n3 n4 : Nat) : (Instr.buildSlice 28 4 #[(0, .slice (some a1) n1 n1), (1, .slice (some a2) n2 n2), (2, .slice (some a3) n3 n3), (3, .slice (some a4) n4 n4)]).run Try.prog w = .ok (.slice (some ⟨w.heap.size, 0, none⟩) 4 4) (w.alloc (.cells #[.slice (some a1) n1 n1, .slice (some a2) n2 n2, .slice (some a3) n3 n3, .slice (some a4) n4 n4] 22)) := by kernel_rfl
def wrongL : List (List Nat) := [[0], [4, 0], [3, 2], [2, 65]]
def listsL : List (List Nat) := [[9], [2, 1, 98, 0, 0, 3, 0, 1, 97, 0, 0, 3, 0], [1, 1, 65, 0, 0, 3, 0], [1, 1, 97, 8, 0, 3, 0]]
theorem wrong0 : (tkV 0 ([0] ++ List.replicate 70 0)).1 = ⟨0, 0, ⟨#[]⟩⟩ ∧ (tkV 0 ([0] ++ List.replicate 70 0)).2.1 = 4 := ⟨by kernel_rfl, by kernel_rfl⟩
theorem wrong1 : (tkV 0 ([4, 0] ++ List.replicate 70 0)).1 = ⟨0, 0, ⟨#[]⟩⟩ ∧ (tkV 0 ([4, 0] ++ List.replicate 70 0)).2.1 = 4 := ⟨by kernel_rfl, by kernel_rfl⟩
theorem wrong2 : (tkV 0 ([3, 2] ++ List.replicate 70 0)).1 = ⟨0, 0, ⟨#[]⟩⟩ ∧ (tkV 0 ([3, 2] ++ List.replicate 70 0)).2.1 = 4 := ⟨by kernel_rfl, by kernel_rfl⟩
theorem wrong3 : (tkV 0 ([2, 65] ++ List.replicate 70 0)).1 = ⟨0, 0, ⟨#[]⟩⟩ ∧ (tkV 0 ([2, 65] ++ List.replicate 70 0)).2.1 = 5 := ⟨by kernel_rfl, by kernel_rfl⟩
theorem lists_no : ∀ i (h : i < 4), (tkAs 0 (listsL[i]'h)).1 = [] ∧ (tkAs 0 (listsL[i]'h)).2.1 = 4
  | 0, _ => ⟨by kernel_rfl, by kernel_rfl⟩
  | 1, _ => ⟨by kernel_rfl, by kernel_rfl⟩
  | 2, _ => ⟨by kernel_rfl, by kernel_rfl⟩
  | 3, _ => ⟨by kernel_rfl, by kernel_rfl⟩
theorem take_wrong0 {lo g : Nat} {w : World} (h : Rdr w lo g 0 ([0] ++ List.replicate 70 0)) : Calls Try.prog 23 #[.pointer (some ⟨g, 0, none⟩)] w fun r w' => r = .returned (.agg #[.int .i64 0, .int .i64 0, .string ⟨#[]⟩]) ∧ (∃ m, Rdr w' lo g 4 m) ∧ w.grownBy w' (some g) := by
  refine (takeV_any h).mono fun r w' ht => ?_
  obtain ⟨h1, h2, h3⟩ := ht
  rw [wrong0.1] at h1
  rw [wrong0.2] at h2
  exact ⟨h1, ⟨_, h2⟩, h3⟩
theorem take_wrong1 {lo g : Nat} {w : World} (h : Rdr w lo g 0 ([4, 0] ++ List.replicate 70 0)) : Calls Try.prog 23 #[.pointer (some ⟨g, 0, none⟩)] w fun r w' => r = .returned (.agg #[.int .i64 0, .int .i64 0, .string ⟨#[]⟩]) ∧ (∃ m, Rdr w' lo g 4 m) ∧ w.grownBy w' (some g) := by
  refine (takeV_any h).mono fun r w' ht => ?_
  obtain ⟨h1, h2, h3⟩ := ht
  rw [wrong1.1] at h1
  rw [wrong1.2] at h2
  exact ⟨h1, ⟨_, h2⟩, h3⟩
theorem take_wrong2 {lo g : Nat} {w : World} (h : Rdr w lo g 0 ([3, 2] ++ List.replicate 70 0)) : Calls Try.prog 23 #[.pointer (some ⟨g, 0, none⟩)] w fun r w' => r = .returned (.agg #[.int .i64 0, .int .i64 0, .string ⟨#[]⟩]) ∧ (∃ m, Rdr w' lo g 4 m) ∧ w.grownBy w' (some g) := by
  refine (takeV_any h).mono fun r w' ht => ?_
  obtain ⟨h1, h2, h3⟩ := ht
  rw [wrong2.1] at h1
  rw [wrong2.2] at h2
  exact ⟨h1, ⟨_, h2⟩, h3⟩
theorem take_wrong3 {lo g : Nat} {w : World} (h : Rdr w lo g 0 ([2, 65] ++ List.replicate 70 0)) : Calls Try.prog 23 #[.pointer (some ⟨g, 0, none⟩)] w fun r w' => r = .returned (.agg #[.int .i64 0, .int .i64 0, .string ⟨#[]⟩]) ∧ (∃ m, Rdr w' lo g 5 m) ∧ w.grownBy w' (some g) := by
  refine (takeV_any h).mono fun r w' ht => ?_
  obtain ⟨h1, h2, h3⟩ := ht
  rw [wrong3.1] at h1
  rw [wrong3.2] at h2
  exact ⟨h1, ⟨_, h2⟩, h3⟩
theorem take_lists {lo g k : Nat} {w : World} (hk : k < 4) {l : List Nat} (hl : l = listsL[k]'hk) (h : Rdr w lo g 0 l) : Calls Try.prog 25 #[.pointer (some ⟨g, 0, none⟩)] w fun r w' => (∃ A c, r = .returned (.slice A 0 c)) ∧ (∃ m, Rdr w' lo g 4 m) ∧ w.grownBy w' (some g) := by
  subst hl
  obtain ⟨hn1, hn2⟩ := lists_no k hk
  refine (takeAs_any h).mono fun r w' ht => ?_
  obtain ⟨v, rfl, ho, hr, hg⟩ := ht
  rw [hn2] at hr
  rw [hn1] at ho
  obtain ⟨A, c, rfl, _⟩ := ownsRow_lies ho
  exact ⟨⟨A, c, rfl⟩, ⟨_, hr⟩, hg⟩
/-- append(b, make([]byte, 70)...) onto a full row. -/
theorem growZ {W : World} {b n : Nat} {l : List Nat} (h : BS W (some ⟨b, 0, none⟩) n n l) (hn : n ≤ 100) : ∃ c w', (∀ ty, (Builtin.append_ #[22, 3] ty #[.slice (some ⟨b, 0, none⟩) n n, .int .i64 70]).run Try.prog W = .ok (.slice (some ⟨W.heap.size, 0, none⟩) (n + 70) c) w') ∧ BS w' (some ⟨W.heap.size, 0, none⟩) (n + 70) c (l ++ List.replicate 70 0) ∧ Below W.heap.size W w' := by
  obtain ⟨i5, hi5, hz5, hs5, hb5⟩ := info_parts infoU8
  have hl := h.len
  have hd := h.below (bel0 W).drew
  refine ⟨grownCap W (n + 70) n 5, _, fun ty => Lib.run_append_grow_zeros (P := Try.prog) W 22 3 ty 5 i5 (.int .u8 0) .i64 .i64 Try.underlying22 Try.underlying3 hi5 hz5 (some ⟨b, 0, none⟩) n n (bv l) ?_ 70 (by omega) (by rw [hs5]; omega) (by omega) (by omega) (by rw [hb5]; omega) (by rw [hb5]; exact growslice_fits (need := n + 70) (old := n) (bytes := 1) (by omega) (by omega)), ?_, (bel0 W).drew.alloc (Nat.le_refl _) _⟩
  · rw [hs5]
    refine run_firstCells_some _ 1 n _ n n _ (by rw [length_bv, Nat.mul_one]; exact hl.symm) (fun j v hj => ?_)
    obtain ⟨hj', rfl⟩ := List.getElem?_eq_some_iff.1 hj
    obtain ⟨ad, e, hc⟩ := hd.lies j hj'
    cases e
    exact hc
  · have hG := grownCap_ge W (n + 70) n 5
    have hn2 := heap_alloc_new W.drew (.cells ((bv l).toArray ++ Builtin.zeroCells (Value.int .u8 0).cells 70 ++ Builtin.zeroCells (Value.int .u8 0).cells (grownCap W (n + 70) n 5 - (n + 70))) 5)
    have e : (bv l).toArray ++ Builtin.zeroCells (Value.int .u8 0).cells 70 = (bv (l ++ List.replicate 70 0)).toArray := by
      have e0 : Builtin.zeroCells (Value.int .u8 0).cells 70 = (bv (List.replicate 70 0)).toArray := by kernel_rfl
      rw [bv_append, e0, List.append_toArray]
    refine ⟨by rw [List.length_append, List.length_replicate, ← hl], by rw [List.length_append, List.length_replicate, ← hl]; exact hG, (by intro h; cases h), ?_, ?_, by rw [List.length_append, List.length_replicate]; omega⟩
    · intro i hi
      refine ⟨_, rfl, ?_⟩
      rw [addr_add, Nat.zero_add]
      refine (cell_of hn2 i).trans ?_
      rw [e, Array.getElem?_append_left (by simpa using hi), List.getElem?_toArray]
      exact List.getElem?_eq_getElem hi
    · intro x hx
      rcases List.mem_append.1 hx with h1 | h1
      · exact h.byt x h1
      · rw [List.mem_replicate] at h1; omega
/-- Lists of attributes in a block. -/
structure Ats (W : World) (g : Nat) (ls : List (List Att)) : Prop where
  at' : ∀ i (h : i < ls.length), ∃ A c, W.cell? ⟨g, i, none⟩ = some (.slice A ls[i].length c) ∧ AS W A ls[i].length c ls[i]
theorem Ats.below {W W' : World} {g : Nat} {ls : List (List Att)} (h : Ats W g ls) (hb : Below W.heap.size W W') : Ats W' g ls := ⟨fun i hi => by
  obtain ⟨A, c, h1, h2⟩ := h.at' i hi
  exact ⟨A, c, blk_cellV hb h1, h2.below hb⟩⟩
theorem AS.made (w : World) (l : List Att) (hp : ∀ a ∈ l, a.lab.p < 4294967296) (hl : l.length ≤ 1000) : AS (w.alloc (.cells (acs l).toArray 49)) (some ⟨w.heap.size, 0, none⟩) l.length l.length l := by
  refine ⟨rfl, Nat.le_refl _, (by intro h; cases h), fun i hi => ⟨_, rfl, ?_⟩, hp, by omega⟩
  rw [addr_add, Nat.zero_add, cell_of (heap_alloc_new w _) i, List.getElem?_toArray]
  exact List.getElem?_eq_getElem hi
def layA (w : World) (l : List Att) : World := w.alloc (.cells (acs l).toArray 49)
theorem ats5 (w : World) (a b c d e : List Att) (ha : (∀ y ∈ a, (y : Att).lab.p < 4294967296) ∧ a.length ≤ 1000) (hb : (∀ y ∈ b, (y : Att).lab.p < 4294967296) ∧ b.length ≤ 1000) (hc : (∀ y ∈ c, (y : Att).lab.p < 4294967296) ∧ c.length ≤ 1000) (hd : (∀ y ∈ d, (y : Att).lab.p < 4294967296) ∧ d.length ≤ 1000) (he : (∀ y ∈ e, (y : Att).lab.p < 4294967296) ∧ e.length ≤ 1000) :
    Ats ((layA (layA (layA (layA (layA w a) b) c) d) e).alloc (.cells #[.slice (some ⟨w.heap.size, 0, none⟩) a.length a.length, .slice (some ⟨w.heap.size + 1, 0, none⟩) b.length b.length, .slice (some ⟨w.heap.size + 1 + 1, 0, none⟩) c.length c.length, .slice (some ⟨w.heap.size + 1 + 1 + 1, 0, none⟩) d.length d.length, .slice (some ⟨w.heap.size + 1 + 1 + 1 + 1, 0, none⟩) e.length e.length] 50)) (w.heap.size + 1 + 1 + 1 + 1 + 1) [a, b, c, d, e] ∧ Below w.heap.size w ((layA (layA (layA (layA (layA w a) b) c) d) e).alloc (.cells #[.slice (some ⟨w.heap.size, 0, none⟩) a.length a.length, .slice (some ⟨w.heap.size + 1, 0, none⟩) b.length b.length, .slice (some ⟨w.heap.size + 1 + 1, 0, none⟩) c.length c.length, .slice (some ⟨w.heap.size + 1 + 1 + 1, 0, none⟩) d.length d.length, .slice (some ⟨w.heap.size + 1 + 1 + 1 + 1, 0, none⟩) e.length e.length] 50)) := by
  have s1 : (layA w a).heap.size = w.heap.size + 1 := by exact World.size_alloc ..
  have s2 : (layA (layA w a) b).heap.size = w.heap.size + 1 + 1 := by rw [← s1]; exact World.size_alloc ..
  have s3 : (layA (layA (layA w a) b) c).heap.size = w.heap.size + 1 + 1 + 1 := by rw [← s2]; exact World.size_alloc ..
  have s4 : (layA (layA (layA (layA w a) b) c) d).heap.size = w.heap.size + 1 + 1 + 1 + 1 := by rw [← s3]; exact World.size_alloc ..
  have s5 : (layA (layA (layA (layA (layA w a) b) c) d) e).heap.size = w.heap.size + 1 + 1 + 1 + 1 + 1 := by rw [← s4]; exact World.size_alloc ..
  have h1 := AS.made w a ha.1 ha.2
  have h2 := AS.made (layA w a) b hb.1 hb.2
  rw [s1] at h2
  have h3 := AS.made (layA (layA w a) b) c hc.1 hc.2
  rw [s2] at h3
  have h4 := AS.made (layA (layA (layA w a) b) c) d hd.1 hd.2
  rw [s3] at h4
  have h5 := AS.made (layA (layA (layA (layA w a) b) c) d) e he.1 he.2
  rw [s4] at h5
  have g1 := (AS.below (AS.below (AS.below (AS.below h1 (bel1' (layA w a) (.cells (acs b).toArray 49))) (bel1' (layA (layA w a) b) (.cells (acs c).toArray 49))) (bel1' (layA (layA (layA w a) b) c) (.cells (acs d).toArray 49))) (bel1' (layA (layA (layA (layA w a) b) c) d) (.cells (acs e).toArray 49)))
  have g2 := (AS.below (AS.below (AS.below h2 (bel1' (layA (layA w a) b) (.cells (acs c).toArray 49))) (bel1' (layA (layA (layA w a) b) c) (.cells (acs d).toArray 49))) (bel1' (layA (layA (layA (layA w a) b) c) d) (.cells (acs e).toArray 49)))
  have g3 := (AS.below (AS.below h3 (bel1' (layA (layA (layA w a) b) c) (.cells (acs d).toArray 49))) (bel1' (layA (layA (layA (layA w a) b) c) d) (.cells (acs e).toArray 49)))
  have g4 := (AS.below h4 (bel1' (layA (layA (layA (layA w a) b) c) d) (.cells (acs e).toArray 49)))
  have g5 := h5
  have hR := heap_alloc_new (layA (layA (layA (layA (layA w a) b) c) d) e) (.cells #[.slice (some ⟨w.heap.size, 0, none⟩) a.length a.length, .slice (some ⟨w.heap.size + 1, 0, none⟩) b.length b.length, .slice (some ⟨w.heap.size + 1 + 1, 0, none⟩) c.length c.length, .slice (some ⟨w.heap.size + 1 + 1 + 1, 0, none⟩) d.length d.length, .slice (some ⟨w.heap.size + 1 + 1 + 1 + 1, 0, none⟩) e.length e.length] 50)
  rw [s5] at hR
  refine ⟨⟨fun i hi => ?_⟩, nx (nx (nx (nx (nx (bel1' w _) (bel1' (layA w a) _)) (bel1' (layA (layA w a) b) _)) (bel1' (layA (layA (layA w a) b) c) _)) (bel1' (layA (layA (layA (layA w a) b) c) d) _)) (bel1' (layA (layA (layA (layA (layA w a) b) c) d) e) _)⟩
  have hi5 : i < 5 := by simpa using hi
  match i, hi5 with
  | 0, _ => exact ⟨_, _, cell_of hR 0, AS.below g1 (bel1' _ _)⟩
  | 1, _ => exact ⟨_, _, cell_of hR 1, AS.below g2 (bel1' _ _)⟩
  | 2, _ => exact ⟨_, _, cell_of hR 2, AS.below g3 (bel1' _ _)⟩
  | 3, _ => exact ⟨_, _, cell_of hR 3, AS.below g4 (bel1' _ _)⟩
  | 4, _ => exact ⟨_, _, cell_of hR 4, AS.below g5 (bel1' _ _)⟩
def oneA : Att := ⟨⟨#[97]⟩, ⟨0, 0⟩, ⟨3, 0, ⟨#[]⟩⟩⟩
def twoA : Att := ⟨⟨#[98]⟩, ⟨0, 0⟩, ⟨3, 0, ⟨#[]⟩⟩⟩
def badsA : List (List Att) := [[twoA, oneA], [oneA, oneA], [⟨⟨#[65]⟩, ⟨0, 0⟩, ⟨3, 0, ⟨#[]⟩⟩⟩], [⟨⟨#[97]⟩, ⟨0, 0⟩, ⟨0, 0, ⟨#[]⟩⟩⟩], [⟨⟨#[97]⟩, ⟨8, 0⟩, ⟨3, 0, ⟨#[]⟩⟩⟩]]
theorem badsA_no : ∀ i (h : i < 5), (atP (badsA[i]'h)).2 = 80
  | 0, _ => (by decide +kernel : (atP [twoA, oneA]).2 = 80)
  | 1, _ => (by decide +kernel : (atP [oneA, oneA]).2 = 80)
  | 2, _ => (by decide +kernel : (atP [⟨⟨#[65]⟩, ⟨0, 0⟩, ⟨3, 0, ⟨#[]⟩⟩⟩]).2 = 80)
  | 3, _ => (by decide +kernel : (atP [⟨⟨#[97]⟩, ⟨0, 0⟩, ⟨0, 0, ⟨#[]⟩⟩⟩]).2 = 80)
  | 4, _ => (by decide +kernel : (atP [⟨⟨#[97]⟩, ⟨8, 0⟩, ⟨3, 0, ⟨#[]⟩⟩⟩]).2 = 80)
def fulA (k : Nat) : List Att := (List.range k).map fun i => ⟨bs [97 + i], ⟨0, 0⟩, ⟨3, 0, ⟨#[]⟩⟩⟩
theorem fulA_9 : (atP (fulA 9)).2 = 80 := by decide +kernel
theorem fulA_8 : (atP (fulA 8)).2 = 0 := by decide +kernel
structure FAt (W0 wr : World) (v : Value) (k : Nat) : Prop where
  bw : Below W0.heap.size W0 wr
  o : wr.ownsRow W0.heap.size 49 6 v (fulA k).length (acs (fulA k))
theorem FAt.below {W0 wr w' : World} {v : Value} {k : Nat} (h : FAt W0 wr v k) (hb : Below wr.heap.size wr w') : FAt W0 w' v k := ⟨nx h.bw hb, ownsRow_below h.o hb⟩
theorem fulA_len (k : Nat) : (fulA k).length = k := by simp [fulA]
theorem fulA_snoc (k : Nat) : fulA (k + 1) = fulA k ++ [⟨bs [97 + k], ⟨0, 0⟩, ⟨3, 0, ⟨#[]⟩⟩⟩] := by simp [fulA, List.range_succ]
theorem FAt.put {W0 wr : World} {v : Value} {k p : Nat} {c : Array Value} {mk : Nat × Nat} (h : FAt W0 wr v k) (hp : wr.heap[p]? = some (.cells c 49 mk)) (hpw : W0.heap.size ≤ p) (j : Nat) (x : Value) (hne : v.ownBlock ≠ some p) : FAt W0 (wr.setCell ⟨p, j, none⟩ x) v k := ⟨h.bw.setCell (p := ⟨p, j, none⟩) hpw x, ownsRow_setCell_other h.o (a := ⟨p, j, none⟩) hne x⟩
theorem FAt.push {W0 wr w' : World} {v v' : Value} {k m : Nat} {nn : ByteArray} (h : FAt W0 wr v k) (ho : w'.ownsRow W0.heap.size 49 6 v' (fulA k ++ ([⟨nn, ⟨0, 0⟩, ⟨3, 0, ⟨#[]⟩⟩⟩] : List Att)).length (acs (fulA k ++ ([⟨nn, ⟨0, 0⟩, ⟨3, 0, ⟨#[]⟩⟩⟩] : List Att)))) (hg : wr.grownBy w' v.ownBlock) (hn : nn = bs [m]) (hm : m = 97 + k) : FAt W0 w' v' (k + 1) := by
  subst hn hm
  rw [← fulA_snoc] at ho
  exact ⟨h.bw.grown hg h.bw.size (fun j hj => own_block h.o j hj), ho⟩
theorem fulA_pt (k : Nat) : ∀ a ∈ fulA k, a.lab.p < 4294967296 := fun a ha => by
  obtain ⟨i, _, rfl⟩ := List.mem_map.1 ha
  show 0 < _
  omega
theorem fulA_take : (fulA 9).take 8 = fulA 8 := rfl
theorem acs_snocV : ∀ (l : List Att) (a : Att), acs (l ++ [a]) = acs l ++ a.cells
  | [], a => by simp [acs]
  | b :: l, a => by
    show b.cells ++ acs (l ++ [a]) = (b.cells ++ acs l) ++ a.cells
    rw [acs_snocV l a, List.append_assoc]
theorem AS.cut {w : World} {A : Option Addr} {n c : Nat} {l : List Att} (h : AS w A n c l) {k : Nat} (hk : k ≤ l.length) : AS w A k c (l.take k) := by
  have hlen : (l.take k).length = k := by rw [List.length_take]; omega
  refine ⟨hlen.symm, by rw [hlen]; exact Nat.le_trans hk h.le, h.nil, fun i hi => ?_, fun a ha => h.pt a (List.mem_of_mem_take ha), by rw [hlen]; exact Nat.le_trans hk h.lim⟩
  have e : acs l = acs (l.take k) ++ acs (l.drop k) := by
    have : ∀ (x y : List Att), acs (x ++ y) = acs x ++ acs y := by
      intro x y
      induction x with
      | nil => simp [acs]
      | cons b x ih => show b.cells ++ acs (x ++ y) = (b.cells ++ acs x) ++ acs y; rw [ih, List.append_assoc]
    rw [← this, List.take_append_drop]
  obtain ⟨ad, hA, hc⟩ := h.lies i (by rw [e, List.length_append]; omega)
  refine ⟨ad, hA, ?_⟩
  rw [hc]
  congr 1
  simp only [e]
  exact List.getElem_append_left hi
theorem bslice_at1 (a : ByteArray) (b : Int) (p : Nat) (c d : Int) (e : ByteArray) (w : World) : (Instr.buildSlice 50 1 #[(0, .agg #[.string a, .int .i64 b, .int .u32 p, .int .i64 c, .int .i64 d, .string e])]).run Try.prog w = .ok (.slice (some ⟨w.heap.size, 0, none⟩) 1 1) (w.alloc (.cells #[.string a, .int .i64 b, .int .u32 p, .int .i64 c, .int .i64 d, .string e] 49)) := by kernel_rfl
theorem bslice_at2 (w : World) (x y : ByteArray) : (Instr.buildSlice 50 2 #[(0, .agg #[.string x, .int .i64 0, .int .u32 0, .int .i64 3, .int .i64 0, .string ⟨#[]⟩]), (1, .agg #[.string y, .int .i64 0, .int .u32 0, .int .i64 3, .int .i64 0, .string ⟨#[]⟩])]).run Try.prog w = .ok (.slice (some ⟨w.heap.size, 0, none⟩) 2 2) (w.alloc (.cells #[.string x, .int .i64 0, .int .u32 0, .int .i64 3, .int .i64 0, .string ⟨#[]⟩, .string y, .int .i64 0, .int .u32 0, .int .i64 3, .int .i64 0, .string ⟨#[]⟩] 49)) := by kernel_rfl
end Go.Proofs.Ytmnabhennibddaa
