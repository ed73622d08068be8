/- The document's Bytes of an answer: its contract. No conditions. -/
import Derived.Test.YtfedgjahbmcpoaaGreatGB41
import Derived.Deep.RegionHeld3
import Derived.Deep.DeepCutAuto
set_option linter.unusedSimpArgs false
set_option linter.unusedVariables false
namespace Go.Proofs.YtfedgjahbmcpoaaGreat
open Go.RowKit

set_option maxHeartbeats 64000000 in
set_option maxRecDepth 100000 in
theorem refAnBytes_any {a : Ans} {u v x : Value} {w : World} (h : AnL w a u v x) (hp : PtS a.sn) :
    Calls Tryz.prog 14 #[anV a u v x] w fun e w' => TwoB w w' e (anP a).1 (anP a).2 := by
  have HA0 := Lib.hid h
  have HP := Lib.hid hp
  obtain ⟨⟨A, c, rfl, h1⟩, ⟨B, d, rfl, h2⟩, ⟨D, e, rfl, h3⟩⟩ := h
  have H1 := Lib.hid h1
  have H2 := Lib.hid h2
  have H3 := Lib.hid h3
  have l1 := h1.lim
  have l2 := h2.lim
  have l3 := h3.lim
  clear h1 h2 h3 hp
  have hb0 := bel1 w (.cells #[.int .i64 a.er, .slice A a.sn.length c, .int .i64 a.nx, .slice B a.ce.length d, .slice D a.ed.length e, .int .i64 a.lf] 29)
  have hq0 := heap_alloc_new w (.cells #[.int .i64 a.er, .slice A a.sn.length c, .int .i64 a.nx, .slice B a.ce.length d, .slice D a.ed.length e, .int .i64 a.lf] 29)
  have HC := Lib.hid (refAnCheck_any (HA0.out.below hb0))
  unfold anV at HC ⊢
  go_enter Tryz.func14, Tryz.ntmps14
  (try simp only [List.append_eq, List.cons_append, List.nil_append])
  go_upto_region 1 with (fail)
  obtain ⟨W0, hW⟩ : ∃ W, W = w.alloc (.cells #[.int .i64 a.er, .slice A a.sn.length c, .int .i64 a.nx, .slice B a.ce.length d, .slice D a.ed.length e, .int .i64 a.lf] 29) := ⟨_, rfl⟩
  rw [← hW] at hb0 hq0 HC ⊢
  clear hW
  obtain ⟨q1, hqq⟩ : ∃ q, q = w.heap.size := ⟨_, rfl⟩
  have HQ1 := Lib.hid hqq
  rw [← hqq] at hq0 ⊢
  clear hqq
  have HQ0 := Lib.hid hq0
  have HB0 := Lib.hid hb0
  clear hq0 hb0
  obtain ⟨x0, x1, x2, x3, x4, x5⟩ := an_block HQ0.out
  go_wp2_with fail
  refine HC.out.mono ?_
  rintro r w2 ⟨rfl, hb⟩
  have HQ2 := Lib.hid (blkB HQ0.out hb)
  have HB2 := Lib.hid (nx HB0.out hb)
  clear hb x0 x1 x2 x3 x4 x5 HQ0 HB0 HC
  obtain ⟨x0, x1, x2, x3, x4, x5⟩ := an_block HQ2.out
  by_cases hok : OkAn a
  case neg =>
    rw [anP_no hok]
    have HNO := Lib.hid hok
    clear hok
    go_wp2_with fail
    go_ret2
    rw [anP_no HNO.out]
    exact ⟨_, rfl, World.ownsRow_nil _ _ _ _, HB2.out⟩
  rw [anP_yes hok]
  have HOK := Lib.hid hok
  clear hok
  have m1 := HOK.out.sn.2
  have m2 := HOK.out.ce.2
  have m3 := HOK.out.ed.2
  have hb3 := bel1 w2 (.cells ([a.er, a.nx, a.lf, (a.sn.length : Int)].map (Value.int .i64)).toArray 3)
  have hg3 := heap_alloc_new w2 (.cells ([a.er, a.nx, a.lf, (a.sn.length : Int)].map (Value.int .i64)).toArray 3)
  go_wp2_with fail
  obtain ⟨W3, hW⟩ : ∃ W, W = w2.alloc (.cells ([a.er, a.nx, a.lf, (a.sn.length : Int)].map (Value.int .i64)).toArray 3) := ⟨_, rfl⟩
  rw [← hW] at hb3 hg3
  change Calls _ _ _ (w2.alloc (.cells ([a.er, a.nx, a.lf, (a.sn.length : Int)].map (Value.int .i64)).toArray 3)) _
  rw [← hW]
  clear hW
  refine (ru27_any (l := [a.er, a.nx, a.lf, (a.sn.length : Int)]) hg3 (by simp)).mono ?_
  rintro r w4 ⟨v4, rfl, ho, hb4⟩
  have WB0 := Lib.hid (show Wb w w4 v4 (uN [a.er, a.nx, a.lf, (a.sn.length : Int)]) #[.int .i64 a.er, .slice A a.sn.length c, .int .i64 a.nx, .slice B a.ce.length d, .slice D a.ed.length e, .int .i64 a.lf] from ⟨nx (nx HB2.out hb3) hb4, ownsRow_base ho (by have h1 := HB2.out.size; have h2 := hb3.size; omega), by rw [← HQ1.out]; exact blkB (blkB HQ2.out hb3) hb4⟩)
  have HU := Lib.hid (show (uN [a.er, a.nx, a.lf, (a.sn.length : Int)]).length ≤ 32 from uN_len [a.er, a.nx, a.lf, (a.sn.length : Int)])
  have HUE := Lib.hid (show uN [a.er, a.nx, a.lf, (a.sn.length : Int)] = uN [a.er, a.nx, a.lf] ++ uN [(a.sn.length : Int)] by unfold uN; simp)
  generalize uN [a.er, a.nx, a.lf, (a.sn.length : Int)] = U0 at *
  clear hb3 hg3 ho hb4 HQ2 HB2 x0 x1 x2 x3 x4 x5
  go_wp2_with fail
  go_loopw [4, 5] (fun v i wr => ∃ (vo : Value) (k : Nat), vo = v ∧ k ≤ a.sn.length ∧ i = .int .i64 k ∧ Hid (Wb w wr vo (U0 ++ ((a.sn.take k).map snB).flatten) #[.int .i64 a.er, .slice A a.sn.length c, .int .i64 a.nx, .slice B a.ce.length d, .slice D a.ed.length e, .int .i64 a.lf])) (fun _ i _ => a.sn.length - (intOf i).toNat)
  case atStart => exact ⟨_, 0, rfl, Nat.zero_le _, rfl, Lib.hid (by simpa using WB0.out)⟩
  case round =>
    clear WB0
    obtain ⟨vo, k, rfl, hk, rfl, WB⟩ := hrel
    (try simp only [List.append_eq, List.cons_append, List.nil_append])
    have hbb : wr.heap[q1]? = some (.cells #[.int .i64 a.er, .slice A a.sn.length c, .int .i64 a.nx, .slice B a.ce.length d, .slice D a.ed.length e, .int .i64 a.lf] 29 (0, 0)) := by rw [HQ1.out]; exact WB.out.b1
    obtain ⟨x0, x1, x2, x3, x4, x5⟩ := an_block hbb
    clear hbb
    by_cases hlt : k < a.sn.length
    · have hlI : (k : Int) < (a.sn.length : Int) := by omega
      obtain ⟨g, o, cs, hA, ⟨P, m9, c9, rfl, hAS⟩, hc⟩ := H1.out.cellsAt (bel0 w) hlt
      subst hA
      have haa : (⟨g, o, none⟩ : Addr).add (k * 11) = ⟨g, o + k * 11, none⟩ := addr_add _ _ _
      have HSN := Lib.hid (show U0 ++ ((a.sn.take (k + 1)).map snB).flatten = (U0 ++ ((a.sn.take k).map snB).flatten) ++ snB a.sn[k] by rw [flat_snoc snB hlt, List.append_assoc])
      have HOS := Lib.hid (HOK.out.sn.1.1 _ (List.getElem_mem hlt))
      have HPS := Lib.hid (HP.out _ (List.getElem_mem hlt))
      have hlen : (U0 ++ ((a.sn.take k).map snB).flatten).length ≤ 200000000 := by
        have h1 := (flat_len (f := snB) (m := 140000) (a.sn.take k) (fun x hx => snB_len (HOK.out.sn.1.1 x (List.mem_of_mem_take hx)).sp (HP.out x (List.mem_of_mem_take hx)))).1
        have h2 := List.length_take_le k a.sn
        have h3 : 140000 * (a.sn.take k).length ≤ 140000 * 1000 := Nat.mul_le_mul_left _ (by omega)
        have := HU.out
        rw [List.length_append]
        omega
      have HAS := Lib.hid hAS
      clear hAS
      have e0 : wr.cell? ⟨g, o + k * 11, none⟩ = _ := (WB.out.bel.cell (p := ⟨g, o + k * 11, none⟩) (World.block_lt_of_cell? _ _ (hc 0 _ rfl))).trans (hc 0 _ rfl)
      have e1 : wr.cell? ⟨g, o + k * 11 + 1, none⟩ = _ := (WB.out.bel.cell (p := ⟨g, o + k * 11 + 1, none⟩) (World.block_lt_of_cell? _ _ (hc 1 _ rfl))).trans (hc 1 _ rfl)
      have e2 : wr.cell? ⟨g, o + k * 11 + 2, none⟩ = _ := (WB.out.bel.cell (p := ⟨g, o + k * 11 + 2, none⟩) (World.block_lt_of_cell? _ _ (hc 2 _ rfl))).trans (hc 2 _ rfl)
      have e3 : wr.cell? ⟨g, o + k * 11 + 3, none⟩ = _ := (WB.out.bel.cell (p := ⟨g, o + k * 11 + 3, none⟩) (World.block_lt_of_cell? _ _ (hc 3 _ rfl))).trans (hc 3 _ rfl)
      have e4 : wr.cell? ⟨g, o + k * 11 + 4, none⟩ = _ := (WB.out.bel.cell (p := ⟨g, o + k * 11 + 4, none⟩) (World.block_lt_of_cell? _ _ (hc 4 _ rfl))).trans (hc 4 _ rfl)
      have e5 : wr.cell? ⟨g, o + k * 11 + 5, none⟩ = _ := (WB.out.bel.cell (p := ⟨g, o + k * 11 + 5, none⟩) (World.block_lt_of_cell? _ _ (hc 5 _ rfl))).trans (hc 5 _ rfl)
      have e6 : wr.cell? ⟨g, o + k * 11 + 6, none⟩ = _ := (WB.out.bel.cell (p := ⟨g, o + k * 11 + 6, none⟩) (World.block_lt_of_cell? _ _ (hc 6 _ rfl))).trans (hc 6 _ rfl)
      have e7 : wr.cell? ⟨g, o + k * 11 + 7, none⟩ = _ := (WB.out.bel.cell (p := ⟨g, o + k * 11 + 7, none⟩) (World.block_lt_of_cell? _ _ (hc 7 _ rfl))).trans (hc 7 _ rfl)
      have e8 : wr.cell? ⟨g, o + k * 11 + 8, none⟩ = _ := (WB.out.bel.cell (p := ⟨g, o + k * 11 + 8, none⟩) (World.block_lt_of_cell? _ _ (hc 8 _ rfl))).trans (hc 8 _ rfl)
      have e9 : wr.cell? ⟨g, o + k * 11 + 9, none⟩ = _ := (WB.out.bel.cell (p := ⟨g, o + k * 11 + 9, none⟩) (World.block_lt_of_cell? _ _ (hc 9 _ rfl))).trans (hc 9 _ rfl)
      have e10 : wr.cell? ⟨g, o + k * 11 + 10, none⟩ = _ := (WB.out.bel.cell (p := ⟨g, o + k * 11 + 10, none⟩) (World.block_lt_of_cell? _ _ (hc 10 _ rfl))).trans (hc 10 _ rfl)
      clear hc
      generalize a.sn[k] = s at *
      generalize U0 ++ ((a.sn.take k).map snB).flatten = L1 at *
      have hb5 := nx (bel1 wr (.cells #[.int .i64 s.sp.tr, .int .i64 s.sp.id, .int .i64 s.sp.pa, .string s.sp.sv, .string s.sp.op, .int .i64 s.sp.st, .int .i64 s.sp.ln, .string s.sp.sj, .slice P m9 c9, .int .i64 s.dp, .bool s.lo] 50)) (bel1 (wr.alloc (.cells #[.int .i64 s.sp.tr, .int .i64 s.sp.id, .int .i64 s.sp.pa, .string s.sp.sv, .string s.sp.op, .int .i64 s.sp.st, .int .i64 s.sp.ln, .string s.sp.sj, .slice P m9 c9, .int .i64 s.dp, .bool s.lo] 50)) (.cells #[.int .i64 s.sp.tr, .int .i64 s.sp.id, .int .i64 s.sp.pa, .string s.sp.sv, .string s.sp.op, .int .i64 s.sp.st, .int .i64 s.sp.ln, .string s.sp.sj, .slice P m9 c9] 48))
      have hq6 := blkB (heap_alloc_new wr (.cells #[.int .i64 s.sp.tr, .int .i64 s.sp.id, .int .i64 s.sp.pa, .string s.sp.sv, .string s.sp.op, .int .i64 s.sp.st, .int .i64 s.sp.ln, .string s.sp.sj, .slice P m9 c9, .int .i64 s.dp, .bool s.lo] 50)) (bel1 _ (.cells #[.int .i64 s.sp.tr, .int .i64 s.sp.id, .int .i64 s.sp.pa, .string s.sp.sv, .string s.sp.op, .int .i64 s.sp.st, .int .i64 s.sp.ln, .string s.sp.sj, .slice P m9 c9] 48))
      have hq7 := heap_alloc_new (wr.alloc (.cells #[.int .i64 s.sp.tr, .int .i64 s.sp.id, .int .i64 s.sp.pa, .string s.sp.sv, .string s.sp.op, .int .i64 s.sp.st, .int .i64 s.sp.ln, .string s.sp.sj, .slice P m9 c9, .int .i64 s.dp, .bool s.lo] 50)) (.cells #[.int .i64 s.sp.tr, .int .i64 s.sp.id, .int .i64 s.sp.pa, .string s.sp.sv, .string s.sp.op, .int .i64 s.sp.st, .int .i64 s.sp.ln, .string s.sp.sj, .slice P m9 c9] 48)
      rw [World.size_alloc] at hq7
      go_upto_region 9 with (fail)
      obtain ⟨W5, hW⟩ : ∃ W, W = (wr.alloc (.cells #[.int .i64 s.sp.tr, .int .i64 s.sp.id, .int .i64 s.sp.pa, .string s.sp.sv, .string s.sp.op, .int .i64 s.sp.st, .int .i64 s.sp.ln, .string s.sp.sj, .slice P m9 c9, .int .i64 s.dp, .bool s.lo] 50)).alloc (.cells #[.int .i64 s.sp.tr, .int .i64 s.sp.id, .int .i64 s.sp.pa, .string s.sp.sv, .string s.sp.op, .int .i64 s.sp.st, .int .i64 s.sp.ln, .string s.sp.sj, .slice P m9 c9] 48) := ⟨_, rfl⟩
      rw [← hW] at hb5 hq6 hq7 ⊢
      clear hW
      obtain ⟨q7, hqq⟩ : ∃ q, q = wr.heap.size + 1 := ⟨_, rfl⟩
      rw [← hqq] at hq7 ⊢
      clear hqq
      obtain ⟨q6, hqq⟩ : ∃ q, q = wr.heap.size := ⟨_, rfl⟩
      rw [← hqq] at hq6 ⊢
      clear hqq
      have WB5 := Lib.hid (WB.out.below hb5)
      have HQ6 := Lib.hid hq6
      have HQ7 := Lib.hid hq7
      clear WB hb5 hq6 hq7 x0 x1 x2 x3 x4 x5 e0 e1 e2 e3 e4 e5 e6 e7 e8 e9 e10
      have AK := Lib.hid (fun (x : World) (h1 : x.heap[q6]? = some (.cells #[.int .i64 s.sp.tr, .int .i64 s.sp.id, .int .i64 s.sp.pa, .string s.sp.sv, .string s.sp.op, .int .i64 s.sp.st, .int .i64 s.sp.ln, .string s.sp.sj, .slice P m9 c9, .int .i64 s.dp, .bool s.lo] 50 (0, 0))) (h2 : x.heap[q7]? = some (.cells #[.int .i64 s.sp.tr, .int .i64 s.sp.id, .int .i64 s.sp.pa, .string s.sp.sv, .string s.sp.op, .int .i64 s.sp.st, .int .i64 s.sp.ln, .string s.sp.sj, .slice P m9 c9] 48 (0, 0))) => show (fun w' => w'.cell? ⟨q6, 9, none⟩ = some (.int .i64 s.dp) ∧ w'.cell? ⟨q6, 10, none⟩ = some (.bool s.lo) ∧ w'.cell? ⟨q7, 0, none⟩ = some (.int .i64 s.sp.tr) ∧ w'.cell? ⟨q7, 1, none⟩ = some (.int .i64 s.sp.id) ∧ w'.cell? ⟨q7, 2, none⟩ = some (.int .i64 s.sp.pa) ∧ w'.cell? ⟨q7, 5, none⟩ = some (.int .i64 s.sp.st) ∧ w'.cell? ⟨q7, 6, none⟩ = some (.int .i64 s.sp.ln)) x from ⟨cell_of h1 9, cell_of h1 10, cell_of h2 0, cell_of h2 1, cell_of h2 2, cell_of h2 5, cell_of h2 6⟩)
      refine wp_region_held_drew (S := (fun w' => w'.cell? ⟨q6, 9, none⟩ = some (.int .i64 s.dp) ∧ w'.cell? ⟨q6, 10, none⟩ = some (.bool s.lo) ∧ w'.cell? ⟨q7, 0, none⟩ = some (.int .i64 s.sp.tr) ∧ w'.cell? ⟨q7, 1, none⟩ = some (.int .i64 s.sp.id) ∧ w'.cell? ⟨q7, 2, none⟩ = some (.int .i64 s.sp.pa) ∧ w'.cell? ⟨q7, 5, none⟩ = some (.int .i64 s.sp.st) ∧ w'.cell? ⟨q7, 6, none⟩ = some (.int .i64 s.sp.ln))) (by kernel_rfl) (AK.out _ (blkB HQ6.out (bel0 W5).drew) (blkB HQ7.out (bel0 W5).drew)) (fun hHeld => ?_)
      refine' take_val (i := 0) (d := 43) (v := _) rfl rfl (by kernel_rfl) (by kernel_rfl) (by kernel_rfl) (fun _ _ _ h => h) (by rfl) ?_ (by assumption) ?_
      rotate_left
      · (intro w hSw; (try dsimp only at hSw); go_simp; (try with_reducible rfl))
      (try simp only [Act.put, List.setIfInBounds_toArray, List.set_cons_zero, List.set_cons_succ])
      refine' take_val (i := 1) (d := 44) (v := _) rfl rfl (by kernel_rfl) (by kernel_rfl) (by kernel_rfl) (fun _ _ _ h => h) (by rfl) ?_ (by assumption) ?_
      rotate_left
      · (intro w hSw; (try dsimp only at hSw); go_simp; (try with_reducible rfl))
      (try simp only [Act.put, List.setIfInBounds_toArray, List.set_cons_zero, List.set_cons_succ])
      refine' take_val (i := 2) (d := 45) (v := _) rfl rfl (by kernel_rfl) (by kernel_rfl) (by kernel_rfl) (fun _ _ _ h => h) (by rfl) ?_ (by assumption) ?_
      rotate_left
      · (intro w hSw; (try dsimp only at hSw); go_simp; (try with_reducible rfl))
      (try simp only [Act.put, List.setIfInBounds_toArray, List.set_cons_zero, List.set_cons_succ])
      refine' take_val (i := 3) (d := 46) (v := _) rfl rfl (by kernel_rfl) (by kernel_rfl) (by kernel_rfl) (fun _ _ _ h => h) (by rfl) ?_ (by assumption) ?_
      rotate_left
      · (intro w hSw; (try dsimp only at hSw); go_simp; (try with_reducible rfl))
      (try simp only [Act.put, List.setIfInBounds_toArray, List.set_cons_zero, List.set_cons_succ])
      refine' take_val (i := 4) (d := 47) (v := _) rfl rfl (by kernel_rfl) (by kernel_rfl) (by kernel_rfl) (fun _ _ _ h => h) (by rfl) ?_ (by assumption) ?_
      rotate_left
      · (intro w hSw; (try dsimp only at hSw); go_simp; (try with_reducible rfl))
      (try simp only [Act.put, List.setIfInBounds_toArray, List.set_cons_zero, List.set_cons_succ])
      refine' take_val (i := 6) (d := 49) (v := _) rfl rfl (by kernel_rfl) (by kernel_rfl) (by kernel_rfl) (fun _ _ _ h => h) (by rfl) ?_ (by assumption) ?_
      rotate_left
      · (intro w hSw; (try dsimp only at hSw); go_simp; (try with_reducible rfl))
      (try simp only [Act.put, List.setIfInBounds_toArray, List.set_cons_zero, List.set_cons_succ])
      refine' take_val (i := 7) (d := 50) (v := _) rfl rfl (by kernel_rfl) (by kernel_rfl) (by kernel_rfl) (fun _ _ _ h => h) (by rfl) ?_ (by assumption) ?_
      rotate_left
      · (intro w hSw; (try dsimp only at hSw); go_simp; (try with_reducible rfl))
      (try simp only [Act.put, List.setIfInBounds_toArray, List.set_cons_zero, List.set_cons_succ])
      refine' take_val (i := 8) (d := 51) (v := _) rfl rfl (by kernel_rfl) (by kernel_rfl) (by kernel_rfl) (fun _ _ _ h => h) (by rfl) ?_ (by assumption) ?_
      rotate_left
      · (intro w hSw; (try dsimp only at hSw); go_simp; (try with_reducible rfl))
      (try simp only [Act.put, List.setIfInBounds_toArray, List.set_cons_zero, List.set_cons_succ])
      refine' take_val (i := 9) (d := 52) (v := _) rfl rfl (by kernel_rfl) (by kernel_rfl) (by kernel_rfl) (fun _ _ _ h => h) (by rfl) ?_ (by assumption) ?_
      rotate_left
      · (intro w hSw; (try dsimp only at hSw); go_simp; (try with_reducible rfl))
      (try simp only [Act.put, List.setIfInBounds_toArray, List.set_cons_zero, List.set_cons_succ])
      refine' take_val (i := 10) (d := 53) (v := _) rfl rfl (by kernel_rfl) (by kernel_rfl) (by kernel_rfl) (fun _ _ _ h => h) (by rfl) ?_ (by assumption) ?_
      rotate_left
      · (intro w hSw; (try dsimp only at hSw); go_simp; (try with_reducible rfl))
      (try simp only [Act.put, List.setIfInBounds_toArray, List.set_cons_zero, List.set_cons_succ])
      refine' take_val (i := 11) (d := 54) (v := _) rfl rfl (by kernel_rfl) (by kernel_rfl) (by kernel_rfl) (fun _ _ _ h => h) (by rfl) ?_ (by assumption) ?_
      rotate_left
      · (intro w hSw; (try dsimp only at hSw); go_simp; (try with_reducible rfl))
      (try simp only [Act.put, List.setIfInBounds_toArray, List.set_cons_zero, List.set_cons_succ])
      refine' take_val (i := 12) (d := 55) (v := _) rfl rfl (by kernel_rfl) (by kernel_rfl) (by kernel_rfl) (fun _ _ _ h => h) (by rfl) ?_ (by assumption) ?_
      rotate_left
      · (intro w hSw; (try dsimp only at hSw); go_simp; (try with_reducible rfl))
      (try simp only [Act.put, List.setIfInBounds_toArray, List.set_cons_zero, List.set_cons_succ])
      refine' take_val (i := 13) (d := 56) (v := _) rfl rfl (by kernel_rfl) (by kernel_rfl) (by kernel_rfl) (fun _ _ _ h => h) (by rfl) ?_ (by assumption) ?_
      rotate_left
      · (intro w hSw; (try dsimp only at hSw); go_simp; (try with_reducible rfl))
      (try simp only [Act.put, List.setIfInBounds_toArray, List.set_cons_zero, List.set_cons_succ])
      refine' take_val (i := 14) (d := 57) (v := _) rfl rfl (by kernel_rfl) (by kernel_rfl) (by kernel_rfl) (fun _ _ _ h => h) (by rfl) ?_ (by assumption) ?_
      rotate_left
      · (intro w hSw; (try dsimp only at hSw); go_simp; (try with_reducible rfl))
      (try simp only [Act.put, List.setIfInBounds_toArray, List.set_cons_zero, List.set_cons_succ])
      refine' take_val (i := 15) (d := 58) (v := _) rfl rfl (by kernel_rfl) (by kernel_rfl) (by kernel_rfl) (fun _ _ _ h => h) (by rfl) ?_ (by assumption) ?_
      rotate_left
      · (intro w hSw; (try dsimp only at hSw); go_simp; (try with_reducible rfl))
      (try simp only [Act.put, List.setIfInBounds_toArray, List.set_cons_zero, List.set_cons_succ])
      refine wpAnyH_ready (rs := [5]) (by kernel_rfl) (by simp) ?_
      refine AllReadyH.cons rfl (fun K hK => ?_) AllReadyH.nil
      go_simp
      go_at_call 44
      refine (rbit27_any s.lo _).mono ?_
      rintro r w6 ⟨rfl, rfl⟩
      go_wp2_with fail
      refine hK.out _ _ (AK.out _ (blkB HQ6.out (bel0 W5).drew) (blkB HQ7.out (bel0 W5).drew)) (fun hHeld => ?_)
      clear hK K
      (try simp only [Act.put, List.setIfInBounds_toArray, List.set_cons_zero, List.set_cons_succ])
      refine wpAnyH_ready (rs := [16]) (by kernel_rfl) (by simp) ?_
      refine AllReadyH.cons rfl (fun K hK => ?_) AllReadyH.nil
      go_simp
      go_wp2_with fail
      refine hK.out _ _ (AK.out _ (blkB (blkB HQ6.out (bel0 W5).drew) (bel1 W5.drew (.cells ([s.dp, bitN s.lo, s.sp.tr, s.sp.id, s.sp.pa, s.sp.st, s.sp.ln].map (Value.int .i64)).toArray 3))) (blkB (blkB HQ7.out (bel0 W5).drew) (bel1 W5.drew (.cells ([s.dp, bitN s.lo, s.sp.tr, s.sp.id, s.sp.pa, s.sp.st, s.sp.ln].map (Value.int .i64)).toArray 3)))) (fun hHeld => ?_)
      clear hK K
      (try simp only [Act.put, List.setIfInBounds_toArray, List.set_cons_zero, List.set_cons_succ])
      refine wpAnyH_ready (rs := [17]) (by kernel_rfl) (by simp) ?_
      refine AllReadyH.cons rfl (fun K hK => ?_) AllReadyH.nil
      go_simp
      go_at_call 43
      have hg8 := heap_alloc_new W5.drew (.cells ([s.dp, bitN s.lo, s.sp.tr, s.sp.id, s.sp.pa, s.sp.st, s.sp.ln].map (Value.int .i64)).toArray 3)
      have hb8 := nx (bel0 W5).drew (bel1 W5.drew (.cells ([s.dp, bitN s.lo, s.sp.tr, s.sp.id, s.sp.pa, s.sp.st, s.sp.ln].map (Value.int .i64)).toArray 3))
      refine (ru27_bs (l := [s.dp, bitN s.lo, s.sp.tr, s.sp.id, s.sp.pa, s.sp.st, s.sp.ln]) (w := W5.drew.alloc (.cells ([s.dp, bitN s.lo, s.sp.tr, s.sp.id, s.sp.pa, s.sp.st, s.sp.ln].map (Value.int .i64)).toArray 3)) hg8 (by simp)).mono ?_
      rintro r w8 ⟨A8, n8, c8, rfl, hB8, hb⟩
      have WB8 := Lib.hid (WB5.out.below (nx hb8 hb))
      have HQ68 := Lib.hid (blkB HQ6.out (nx hb8 hb))
      have HQ78 := Lib.hid (blkB HQ7.out (nx hb8 hb))
      have BS8 := Lib.hid hB8
      clear hg8 hb8 hb hB8 WB5 HQ6 HQ7
      go_wp2_with fail
      refine hK.out _ _ (AK.out _ HQ68.out HQ78.out) (fun hHeld => ?_)
      clear hK K
      (try simp only [Act.put, List.setIfInBounds_toArray, List.set_cons_zero, List.set_cons_succ])
      refine wpAnyH_ready (rs := [18]) (by kernel_rfl) (by simp) ?_
      refine AllReadyH.cons rfl (fun K hK => ?_) AllReadyH.nil
      have hu7 := uN_len [s.dp, bitN s.lo, s.sp.tr, s.sp.id, s.sp.pa, s.sp.st, s.sp.ln]
      simp only [List.length_cons, List.length_nil] at hu7
      rw [if_pos (by kernel_rfl)]
      refine wp_append_bytes (.tmp 43) (.tmp 60) rfl w.heap.size vo (L1) (uN [s.dp, bitN s.lo, s.sp.tr, s.sp.id, s.sp.pa, s.sp.st, s.sp.ln]) rfl WB8.out.own A8 n8 c8 rfl BS8.out (by (try simp only [List.length_append]); omega) WB8.out.bel.size ?_
      intro v9 w9 ho hg hv
      have WB9 := Lib.hid (WB8.out.app ho hg)
      have HQ69 := Lib.hid (blkG WB8.out.own hg HQ68.out (by decide))
      have HQ79 := Lib.hid (blkG WB8.out.own hg HQ78.out (by decide))
      clear ho hg hv
      refine hK.out _ _ (AK.out _ HQ69.out HQ79.out) (fun hHeld => ?_)
      clear hK K
      (try simp only [Act.put, List.getElem_toArray, List.getElem_cons_succ, List.getElem_cons_zero, List.setIfInBounds_toArray, List.set_cons_zero, List.set_cons_succ])
      (try simp only [Act.put, List.setIfInBounds_toArray, List.set_cons_zero, List.set_cons_succ])
      refine' take_val (i := 19) (d := 4) (v := _) rfl rfl (by kernel_rfl) (by kernel_rfl) (by kernel_rfl) (fun _ _ _ h => h) (by rfl) ?_ (by assumption) ?_
      rotate_left
      · (intro w hSw; (try dsimp only at hSw); go_simp; (try with_reducible rfl))
      (try simp only [Act.put, List.setIfInBounds_toArray, List.set_cons_zero, List.set_cons_succ])
      refine wpAnyH_done (by kernel_rfl) ?_ _
      clear AK hHeld WB8 BS8 HQ68 HQ78 HQ69
      have y3 := cell_of HQ79.out 3
      have y4 := cell_of HQ79.out 4
      simp at y3 y4
      have hg10 := heap_alloc_new w9 (.cells ([s.sp.sv, s.sp.op].map (Value.string)).toArray 9)
      have hb10 := bel1 w9 (.cells ([s.sp.sv, s.sp.op].map (Value.string)).toArray 9)
      go_wp2_with fail
      change Calls _ _ _ (w9.alloc (.cells ([s.sp.sv, s.sp.op].map (Value.string)).toArray 9)) _
      refine (rt27_bs (l := [s.sp.sv, s.sp.op]) hg10 (by simp)).mono ?_
      rintro r w11 ⟨A11, n11, c11, rfl, hB, hb⟩
      have WB11 := Lib.hid (WB9.out.below (nx hb10 hb))
      have HQ711 := Lib.hid (blkB HQ79.out (nx hb10 hb))
      have BS11 := Lib.hid hB
      have ht2 := tN_len [s.sp.sv, s.sp.op]
      simp only [List.length_cons, List.length_nil] at ht2
      clear hg10 hb10 hb hB WB9 HQ79 y3 y4
      go_wp2_with (at_builtin; refine append_bytes rfl (.tmp 62) (.tmp 68) rfl w.heap.size v9 (L1 ++ uN [s.dp, bitN s.lo, s.sp.tr, s.sp.id, s.sp.pa, s.sp.st, s.sp.ln]) (tN [s.sp.sv, s.sp.op]) rfl WB11.out.own A11 n11 c11 rfl BS11.out (by (try simp only [List.length_append]); omega) WB11.out.bel.size ?_; intro v12 w12 ho hg hv; have WB12 := Lib.hid (WB11.out.app ho hg); have HQ712 := Lib.hid (blkG WB11.out.own hg HQ711.out (by decide)); clear ho hg hv WB11 HQ711 BS11; have y8 := cell_of HQ712.out 8; simp at y8)
      refine (refAttrs_any (HAS.out.below WB12.out.bel)).mono ?_
      intro r w13 hh
      have hap := atP_ok HPS.out
      have ha1 : (atP s.sp.ats).1 = asB s.sp.ats := by unfold atP; rw [if_pos HOS.out.sp.ats]
      rw [ha1] at hap hh
      obtain ⟨A13, n13, c13, rfl, hB, _, hb⟩ := hh.open3 hap.1 (by have := hap.2; omega)
      have hap2 := hap.2
      have WB13 := Lib.hid (WB12.out.below hb)
      have BS13 := Lib.hid hB
      clear hh hB hb hap ha1 WB12 HQ712 y8
      go_wp2_with (at_builtin; refine append_bytes rfl (.tmp 76) (.tmp 77) rfl w.heap.size v12 (L1 ++ uN [s.dp, bitN s.lo, s.sp.tr, s.sp.id, s.sp.pa, s.sp.st, s.sp.ln] ++ tN [s.sp.sv, s.sp.op]) (asB s.sp.ats) rfl WB13.out.own A13 n13 c13 rfl BS13.out (by (try simp only [List.length_append]); omega) WB13.out.bel.size ?_; intro v14 w14 ho hg hv; have WB14 := Lib.hid (WB13.out.app ho hg); clear ho hg hv WB13 BS13)
      refine ⟨⟨_, k + 1, rfl, by omega, by go_num, Lib.hid ?_⟩, by simp [intOf]; omega⟩
      rw [HSN.out]
      have := WB14.out
      unfold snB
      simpa only [List.append_assoc] using this
    · obtain rfl : k = a.sn.length := by omega
      have WBs := Lib.hid (show Wb w wr vo (U0 ++ (a.sn.map snB).flatten) #[.int .i64 a.er, .slice A a.sn.length c, .int .i64 a.nx, .slice B a.ce.length d, .slice D a.ed.length e, .int .i64 a.lf] by have := WB.out; rwa [List.take_length] at this)
      have hlsn : (U0 ++ (a.sn.map snB).flatten).length ≤ 200000000 := by
        have h1 := (flat_len (f := snB) (m := 140000) a.sn (fun x hx => snB_len (HOK.out.sn.1.1 x hx).sp (HP.out x hx))).1
        have h3 : 140000 * a.sn.length ≤ 140000 * 1000 := Nat.mul_le_mul_left _ (by omega)
        have := HU.out
        rw [List.length_append]
        omega
      obtain ⟨L1, hL⟩ : ∃ l, l = U0 ++ (a.sn.map snB).flatten := ⟨_, rfl⟩
      rw [← hL] at WBs hlsn
      have HL1 := Lib.hid hL
      clear hL WB hk hlt
      have hg := heap_alloc_new wr (.cells ([(a.ce.length : Int)].map (Value.int .i64)).toArray 3)
      have hb9 := bel1 wr (.cells ([(a.ce.length : Int)].map (Value.int .i64)).toArray 3)
      go_wp2_with fail
      change Calls _ _ _ (wr.alloc (.cells ([(a.ce.length : Int)].map (Value.int .i64)).toArray 3)) _
      refine (ru27_bs (l := [(a.ce.length : Int)]) hg (by simp)).mono ?_
      rintro r w21 ⟨A21, n21, c21, rfl, hB, hb⟩
      have WB21 := Lib.hid (WBs.out.below (nx hb9 hb))
      have BS21 := Lib.hid hB
      have hun := uN_len [(a.ce.length : Int)]
      simp only [List.length_cons, List.length_nil] at hun
      clear hg hb9 hb hB WBs x0 x1 x2 x3 x4 x5
      go_wp2_with (at_builtin; refine append_bytes rfl (.tmp 79) (.tmp 84) rfl w.heap.size vo (L1) (uN [(a.ce.length : Int)]) rfl WB21.out.own A21 n21 c21 rfl BS21.out (by omega) WB21.out.bel.size ?_; intro v21 w21b ho hg hv; have WC := Lib.hid (WB21.out.app ho hg); clear ho hg hv WB21 BS21)
      have hlL2 : (L1 ++ uN [(a.ce.length : Int)]).length ≤ 200000008 := by rw [List.length_append]; omega
      obtain ⟨L2, hL⟩ : ∃ l, l = L1 ++ uN [(a.ce.length : Int)] := ⟨_, rfl⟩
      rw [← hL] at WC hlL2
      have HL2 := Lib.hid hL
      clear hL hun
      go_loopw [4, 10] (fun v i wr => ∃ (vo : Value) (k : Nat), vo = v ∧ k ≤ a.ce.length ∧ i = .int .i64 k ∧ Hid (Wb w wr vo (L2 ++ ((a.ce.take k).map ceB).flatten) #[.int .i64 a.er, .slice A a.sn.length c, .int .i64 a.nx, .slice B a.ce.length d, .slice D a.ed.length e, .int .i64 a.lf])) (fun _ i _ => a.ce.length - (intOf i).toNat)
      case atStart => exact ⟨_, 0, rfl, Nat.zero_le _, rfl, Lib.hid (by simpa using WC.out)⟩
      case round =>
        clear WC
        obtain ⟨vo, k, rfl, hk, rfl, WB⟩ := hrel
        (try simp only [List.append_eq, List.cons_append, List.nil_append])
        have hbb : wr.heap[q1]? = some (.cells #[.int .i64 a.er, .slice A a.sn.length c, .int .i64 a.nx, .slice B a.ce.length d, .slice D a.ed.length e, .int .i64 a.lf] 29 (0, 0)) := by rw [HQ1.out]; exact WB.out.b1
        obtain ⟨x0, x1, x2, x3, x4, x5⟩ := an_block hbb
        clear hbb
        by_cases hlt : k < a.ce.length
        · have hlI : (k : Int) < (a.ce.length : Int) := by omega
          obtain ⟨g, o, cs, hA, rfl, hc⟩ := H2.out.cellsAt (bel0 w) hlt
          subst hA
          have haa : (⟨g, o, none⟩ : Addr).add (k * 2) = ⟨g, o + k * 2, none⟩ := addr_add _ _ _
          have HSN := Lib.hid (show L2 ++ ((a.ce.take (k + 1)).map ceB).flatten = (L2 ++ ((a.ce.take k).map ceB).flatten) ++ ceB a.ce[k] by rw [flat_snoc ceB hlt, List.append_assoc])
          have hlen : (L2 ++ ((a.ce.take k).map ceB).flatten).length ≤ 200001000 := by
            have h1 := (flat_len (f := ceB) (m := 16) (a.ce.take k) (fun x _ => ceB_len x)).1
            have h2 := List.length_take_le k a.ce
            rw [List.length_append]
            omega
          have hc0 : w.cell? ⟨g, o + k * 2, none⟩ = _ := hc 0 _ rfl
          have hc1 : w.cell? ⟨g, o + k * 2 + 1, none⟩ = _ := hc 1 _ rfl
          clear hc
          generalize a.ce[k] = x at *
          generalize L2 ++ ((a.ce.take k).map ceB).flatten = LL at *
          have AK := Lib.hid (fun (W : World) (v : Value) (Lx : List Nat) (h : Wb w W v Lx #[.int .i64 a.er, .slice A a.sn.length c, .int .i64 a.nx, .slice (some ⟨g, o, none⟩) a.ce.length d, .slice D a.ed.length e, .int .i64 a.lf]) => show (fun w' => w'.cell? ⟨q1, 3, none⟩ = some (.slice (some ⟨g, o, none⟩) a.ce.length d) ∧ w'.cell? ⟨g, o + k * 2 + 1, none⟩ = some (.int .i64 x.ct)) W from ⟨(an_block (show W.heap[q1]? = _ by rw [HQ1.out]; exact h.b1)).2.2.2.1, (h.bel.cell (p := ⟨g, o + k * 2 + 1, none⟩) (World.block_lt_of_cell? _ _ hc1)).trans hc1⟩)
          have e0 : wr.cell? ⟨g, o + k * 2, none⟩ = _ := (WB.out.bel.cell (p := ⟨g, o + k * 2, none⟩) (World.block_lt_of_cell? _ _ hc0)).trans hc0
          clear hc0 hc1
          go_wp2_with fail
          refine (refS_all x.at' _).mono ?_
          intro r w11 hh
          have hsp := sP_ok x.at'
          obtain ⟨A11, n11, c11, rfl, hB, _, hb⟩ := hh.open3 hsp.1 (by have := hsp.2; omega)
          have hsp2 := hsp.2
          have WB11 := Lib.hid (WB.out.below hb)
          have BS11 := Lib.hid hB
          clear hh hB hb hsp WB e0 x0 x1 x2 x3 x4 x5
          go_upto_region 18 with (fail)
          have hun := uN_len [x.ct]
          simp only [List.length_cons, List.length_nil] at hun
          refine wp_region_held_drew (S := (fun w' => w'.cell? ⟨q1, 3, none⟩ = some (.slice (some ⟨g, o, none⟩) a.ce.length d) ∧ w'.cell? ⟨g, o + k * 2 + 1, none⟩ = some (.int .i64 x.ct))) (by kernel_rfl) (AK.out _ _ _ (WB11.out.below (bel0 w11).drew)) (fun hHeld => ?_)
          refine' take_val (i := 0) (d := 103) (v := _) rfl rfl (by kernel_rfl) (by kernel_rfl) (by kernel_rfl) (fun _ _ _ h => h) (by rfl) ?_ (by assumption) ?_
          rotate_left
          · (intro w hSw; (try dsimp only at hSw); go_simp; (try with_reducible rfl))
          (try simp only [Act.put, List.setIfInBounds_toArray, List.set_cons_zero, List.set_cons_succ])
          refine' take_val (i := 1) (d := 104) (v := _) rfl rfl (by kernel_rfl) (by kernel_rfl) (by kernel_rfl) (fun _ _ _ h => h) (by rfl) ?_ (by assumption) ?_
          rotate_left
          · (intro w hSw; (try dsimp only at hSw); go_simp; (try with_reducible rfl))
          (try simp only [Act.put, List.setIfInBounds_toArray, List.set_cons_zero, List.set_cons_succ])
          refine' take_val (i := 3) (d := 106) (v := _) rfl rfl (by kernel_rfl) (by kernel_rfl) (by kernel_rfl) (fun _ _ _ h => h) (by rfl) ?_ (by assumption) ?_
          rotate_left
          · (intro w hSw; (try dsimp only at hSw); go_simp; (try with_reducible rfl))
          (try simp only [Act.put, List.setIfInBounds_toArray, List.set_cons_zero, List.set_cons_succ])
          refine' take_val (i := 4) (d := 107) (v := _) rfl rfl (by kernel_rfl) (by kernel_rfl) (by kernel_rfl) (fun _ _ _ h => h) (by rfl) ?_ (by assumption) ?_
          rotate_left
          · (intro w hSw; (try dsimp only at hSw); go_simp; (try with_reducible rfl))
          (try simp only [Act.put, List.setIfInBounds_toArray, List.set_cons_zero, List.set_cons_succ])
          refine' take_val (i := 5) (d := 108) (v := _) rfl rfl (by kernel_rfl) (by kernel_rfl) (by kernel_rfl) (fun _ _ _ h => h) (by rfl) ?_ (by assumption) ?_
          rotate_left
          · (intro w hSw; (try dsimp only at hSw); go_simp; (try with_reducible rfl))
          (try simp only [Act.put, List.setIfInBounds_toArray, List.set_cons_zero, List.set_cons_succ])
          refine' take_val (i := 6) (d := 109) (v := _) rfl rfl (by kernel_rfl) (by kernel_rfl) (by kernel_rfl) (fun _ _ _ h => h) (by rfl) ?_ (by assumption) ?_
          rotate_left
          · (intro w hSw; (try dsimp only at hSw); go_simp; (try with_reducible rfl))
          (try simp only [Act.put, List.setIfInBounds_toArray, List.set_cons_zero, List.set_cons_succ])
          refine' take_val (i := 7) (d := 110) (v := _) rfl rfl (by kernel_rfl) (by kernel_rfl) (by kernel_rfl) (fun _ _ _ h => h) (by rfl) ?_ (by assumption) ?_
          rotate_left
          · (intro w hSw; (try dsimp only at hSw); go_simp; (try with_reducible rfl))
          (try simp only [Act.put, List.setIfInBounds_toArray, List.set_cons_zero, List.set_cons_succ])
          refine' take_val (i := 8) (d := 111) (v := _) rfl rfl (by kernel_rfl) (by kernel_rfl) (by kernel_rfl) (fun _ _ _ h => h) (by rfl) ?_ (by assumption) ?_
          rotate_left
          · (intro w hSw; (try dsimp only at hSw); go_simp; (try with_reducible rfl))
          (try simp only [Act.put, List.setIfInBounds_toArray, List.set_cons_zero, List.set_cons_succ])
          have FwbA := Lib.hid (WB11.out.below (bel0 w11).drew)
          have FbsA := Lib.hid (BS11.out.below (bel0 w11).drew)
          obtain ⟨wd, hwd⟩ : ∃ W, W = w11.drew := ⟨_, rfl⟩
          rw [← hwd] at FwbA FbsA ⊢
          clear hwd WB11 BS11 hHeld
          refine wpAnyH_ready (rs := [2, 9]) (by kernel_rfl) (by simp) ?_
          refine (AllReadyH.cons rfl (fun K hK => ?_) (AllReadyH.cons rfl (fun K hK => ?_) AllReadyH.nil))
          · skip
            rw [if_pos (by kernel_rfl)]
            refine wp_append_bytes (.tmp 103) (.tmp 104) rfl w.heap.size vo (LL) ((sP x.at').1) rfl FwbA.out.own A11 n11 c11 rfl FbsA.out (by (try simp only [List.length_append]); omega) FwbA.out.bel.size ?_
            intro v22 w22 ho hg hv
            clear FbsA
            have Fwb22 := Lib.hid (FwbA.out.app ho hg)
            clear ho hg hv FwbA
            refine hK.out _ _ (AK.out _ _ _ Fwb22.out) (fun hHeld => ?_)
            clear hK K
            (try simp only [Act.put, List.getElem_toArray, List.getElem_cons_succ, List.getElem_cons_zero, List.setIfInBounds_toArray, List.set_cons_zero, List.set_cons_succ])
            clear hHeld
            refine wpAnyH_ready (rs := [9]) (by kernel_rfl) (by simp) ?_
            refine (AllReadyH.cons rfl (fun K hK => ?_) AllReadyH.nil)
            go_simp
            go_wp2_with fail
            have hg23 := heap_alloc_new w22 (.cells ([x.ct].map (Value.int .i64)).toArray 3)
            have Fwb24 := Lib.hid (Fwb22.out.below (bel1 w22 (.cells ([x.ct].map (Value.int .i64)).toArray 3)))
            clear Fwb22
            have Fgi23 := Lib.hid hg23
            clear hg23
            refine hK.out _ _ (AK.out _ _ _ Fwb24.out) (fun hHeld => ?_)
            clear hK K
            (try simp only [Act.put, List.getElem_toArray, List.getElem_cons_succ, List.getElem_cons_zero, List.setIfInBounds_toArray, List.set_cons_zero, List.set_cons_succ])
            obtain ⟨W23, hW⟩ : ∃ W, W = w22.alloc (.cells ([x.ct].map (Value.int .i64)).toArray 3) := ⟨_, rfl⟩
            obtain ⟨g23, hgq⟩ : ∃ g, g = w22.heap.size := ⟨_, rfl⟩
            change wpAnyH _ _ _ _ _ _ _ _ (w22.alloc (.cells ([x.ct].map (Value.int .i64)).toArray 3))
            rw [← hW] at Fwb24 Fgi23 ⊢
            rw [← hgq] at Fgi23 ⊢
            clear hW hgq hHeld
            refine wpAnyH_ready (rs := [10]) (by kernel_rfl) (by simp) ?_
            refine (AllReadyH.cons rfl (fun K hK => ?_) AllReadyH.nil)
            go_simp
            go_at_call 43
            refine (ru27_bs (l := [x.ct]) (w := W23) Fgi23.out (by simp)).mono ?_
            rintro r w25 ⟨A25, n25, c25, rfl, hB, hb⟩
            clear Fgi23
            have Fwb26 := Lib.hid (Fwb24.out.below hb)
            clear Fwb24
            have Fbu25 := Lib.hid hB
            clear hB hb
            go_wp2_with fail
            refine hK.out _ _ (AK.out _ _ _ Fwb26.out) (fun hHeld => ?_)
            clear hK K
            (try simp only [Act.put, List.getElem_toArray, List.getElem_cons_succ, List.getElem_cons_zero, List.setIfInBounds_toArray, List.set_cons_zero, List.set_cons_succ])
            clear hHeld
            refine wpAnyH_ready (rs := [11]) (by kernel_rfl) (by simp) ?_
            refine (AllReadyH.cons rfl (fun K hK => ?_) AllReadyH.nil)
            rw [if_pos (by kernel_rfl)]
            refine wp_append_bytes (.tmp 105) (.tmp 113) rfl w.heap.size v22 (LL ++ (sP x.at').1) (uN [x.ct]) rfl Fwb26.out.own A25 n25 c25 rfl Fbu25.out (by (try simp only [List.length_append]); omega) Fwb26.out.bel.size ?_
            intro v27 w27 ho hg hv
            clear Fbu25
            have Fwb27 := Lib.hid (Fwb26.out.app ho hg)
            clear ho hg hv Fwb26
            refine hK.out _ _ (AK.out _ _ _ Fwb27.out) (fun hHeld => ?_)
            clear hK K
            (try simp only [Act.put, List.getElem_toArray, List.getElem_cons_succ, List.getElem_cons_zero, List.setIfInBounds_toArray, List.set_cons_zero, List.set_cons_succ])
            clear hHeld
            have hHeld := AK.out _ _ _ Fwb27.out
            refine' take_val (i := 12) (d := 4) (v := _) rfl rfl (by kernel_rfl) (by kernel_rfl) (by kernel_rfl) (fun _ _ _ h => h) (by rfl) ?_ (by assumption) ?_
            rotate_left
            · (intro w hSw; (try dsimp only at hSw); go_simp; (try with_reducible rfl))
            (try simp only [Act.put, List.setIfInBounds_toArray, List.set_cons_zero, List.set_cons_succ])
            clear hHeld
            clear AK
            refine wpAnyH_done (by kernel_rfl) ?_ _
            go_wp2_with fail
            refine ⟨⟨_, k + 1, rfl, by omega, by go_num, Lib.hid ?_⟩, by simp [intOf]; omega⟩
            rw [HSN.out]
            have := Fwb27.out
            unfold ceB
            simpa only [List.append_assoc] using this
          · skip
            go_simp
            go_wp2_with fail
            have hg28 := heap_alloc_new wd (.cells ([x.ct].map (Value.int .i64)).toArray 3)
            have Fwb29 := Lib.hid (FwbA.out.below (bel1 wd (.cells ([x.ct].map (Value.int .i64)).toArray 3)))
            have Fbs29 := Lib.hid (FbsA.out.below (bel1 wd (.cells ([x.ct].map (Value.int .i64)).toArray 3)))
            clear FwbA FbsA
            have Fgi28 := Lib.hid hg28
            clear hg28
            refine hK.out _ _ (AK.out _ _ _ Fwb29.out) (fun hHeld => ?_)
            clear hK K
            (try simp only [Act.put, List.getElem_toArray, List.getElem_cons_succ, List.getElem_cons_zero, List.setIfInBounds_toArray, List.set_cons_zero, List.set_cons_succ])
            obtain ⟨W28, hW⟩ : ∃ W, W = wd.alloc (.cells ([x.ct].map (Value.int .i64)).toArray 3) := ⟨_, rfl⟩
            obtain ⟨g28, hgq⟩ : ∃ g, g = wd.heap.size := ⟨_, rfl⟩
            change wpAnyH _ _ _ _ _ _ _ _ (wd.alloc (.cells ([x.ct].map (Value.int .i64)).toArray 3))
            rw [← hW] at Fwb29 Fbs29 Fgi28 ⊢
            rw [← hgq] at Fgi28 ⊢
            clear hW hgq hHeld
            refine wpAnyH_ready (rs := [2]) (by kernel_rfl) (by simp) ?_
            refine (AllReadyH.cons rfl (fun K hK => ?_) AllReadyH.nil)
            rw [if_pos (by kernel_rfl)]
            refine wp_append_bytes (.tmp 103) (.tmp 104) rfl w.heap.size vo (LL) ((sP x.at').1) rfl Fwb29.out.own A11 n11 c11 rfl Fbs29.out (by (try simp only [List.length_append]); omega) Fwb29.out.bel.size ?_
            intro v30 w30 ho hg hv
            clear Fbs29
            have Fwb30 := Lib.hid (Fwb29.out.app ho hg)
            have Fgi30 := Lib.hid (blkG Fwb29.out.own hg Fgi28.out (by decide))
            clear ho hg hv Fwb29 Fgi28
            refine hK.out _ _ (AK.out _ _ _ Fwb30.out) (fun hHeld => ?_)
            clear hK K
            (try simp only [Act.put, List.getElem_toArray, List.getElem_cons_succ, List.getElem_cons_zero, List.setIfInBounds_toArray, List.set_cons_zero, List.set_cons_succ])
            clear hHeld
            refine wpAnyH_ready (rs := [10]) (by kernel_rfl) (by simp) ?_
            refine (AllReadyH.cons rfl (fun K hK => ?_) AllReadyH.nil)
            go_simp
            go_at_call 43
            refine (ru27_bs (l := [x.ct]) (w := w30) Fgi30.out (by simp)).mono ?_
            rintro r w31 ⟨A31, n31, c31, rfl, hB, hb⟩
            clear Fgi30
            have Fwb32 := Lib.hid (Fwb30.out.below hb)
            clear Fwb30
            have Fbu31 := Lib.hid hB
            clear hB hb
            go_wp2_with fail
            refine hK.out _ _ (AK.out _ _ _ Fwb32.out) (fun hHeld => ?_)
            clear hK K
            (try simp only [Act.put, List.getElem_toArray, List.getElem_cons_succ, List.getElem_cons_zero, List.setIfInBounds_toArray, List.set_cons_zero, List.set_cons_succ])
            clear hHeld
            refine wpAnyH_ready (rs := [11]) (by kernel_rfl) (by simp) ?_
            refine (AllReadyH.cons rfl (fun K hK => ?_) AllReadyH.nil)
            rw [if_pos (by kernel_rfl)]
            refine wp_append_bytes (.tmp 105) (.tmp 113) rfl w.heap.size v30 (LL ++ (sP x.at').1) (uN [x.ct]) rfl Fwb32.out.own A31 n31 c31 rfl Fbu31.out (by (try simp only [List.length_append]); omega) Fwb32.out.bel.size ?_
            intro v33 w33 ho hg hv
            clear Fbu31
            have Fwb33 := Lib.hid (Fwb32.out.app ho hg)
            clear ho hg hv Fwb32
            refine hK.out _ _ (AK.out _ _ _ Fwb33.out) (fun hHeld => ?_)
            clear hK K
            (try simp only [Act.put, List.getElem_toArray, List.getElem_cons_succ, List.getElem_cons_zero, List.setIfInBounds_toArray, List.set_cons_zero, List.set_cons_succ])
            clear hHeld
            have hHeld := AK.out _ _ _ Fwb33.out
            refine' take_val (i := 12) (d := 4) (v := _) rfl rfl (by kernel_rfl) (by kernel_rfl) (by kernel_rfl) (fun _ _ _ h => h) (by rfl) ?_ (by assumption) ?_
            rotate_left
            · (intro w hSw; (try dsimp only at hSw); go_simp; (try with_reducible rfl))
            (try simp only [Act.put, List.setIfInBounds_toArray, List.set_cons_zero, List.set_cons_succ])
            clear hHeld
            clear AK
            refine wpAnyH_done (by kernel_rfl) ?_ _
            go_wp2_with fail
            refine ⟨⟨_, k + 1, rfl, by omega, by go_num, Lib.hid ?_⟩, by simp [intOf]; omega⟩
            rw [HSN.out]
            have := Fwb33.out
            unfold ceB
            simpa only [List.append_assoc] using this
        · obtain rfl : k = a.ce.length := by omega
          have WBs := Lib.hid (show Wb w wr vo (L2 ++ (a.ce.map ceB).flatten) #[.int .i64 a.er, .slice A a.sn.length c, .int .i64 a.nx, .slice B a.ce.length d, .slice D a.ed.length e, .int .i64 a.lf] by have := WB.out; rwa [List.take_length] at this)
          have hlce : (L2 ++ (a.ce.map ceB).flatten).length ≤ 200001000 := by
            have h1 := (flat_len (f := ceB) (m := 16) a.ce (fun x _ => ceB_len x)).1
            rw [List.length_append]
            omega
          obtain ⟨L3, hL⟩ : ∃ l, l = L2 ++ (a.ce.map ceB).flatten := ⟨_, rfl⟩
          rw [← hL] at WBs hlce
          have HL3 := Lib.hid hL
          clear hL WB hk hlt
          have hg := heap_alloc_new wr (.cells ([(a.ed.length : Int)].map (Value.int .i64)).toArray 3)
          have hb9 := bel1 wr (.cells ([(a.ed.length : Int)].map (Value.int .i64)).toArray 3)
          go_wp2_with fail
          change Calls _ _ _ (wr.alloc (.cells ([(a.ed.length : Int)].map (Value.int .i64)).toArray 3)) _
          refine (ru27_bs (l := [(a.ed.length : Int)]) hg (by simp)).mono ?_
          rintro r w34 ⟨A34, n34, c34, rfl, hB, hb⟩
          have WB34 := Lib.hid (WBs.out.below (nx hb9 hb))
          have BS34 := Lib.hid hB
          have hun := uN_len [(a.ed.length : Int)]
          simp only [List.length_cons, List.length_nil] at hun
          clear hg hb9 hb hB WBs x0 x1 x2 x3 x4 x5
          go_wp2_with (at_builtin; refine append_bytes rfl (.tmp 115) (.tmp 120) rfl w.heap.size vo (L3) (uN [(a.ed.length : Int)]) rfl WB34.out.own A34 n34 c34 rfl BS34.out (by omega) WB34.out.bel.size ?_; intro v34 w34b ho hg hv; have WC := Lib.hid (WB34.out.app ho hg); clear ho hg hv WB34 BS34)
          have hlL4 : (L3 ++ uN [(a.ed.length : Int)]).length ≤ 200001008 := by rw [List.length_append]; omega
          obtain ⟨L4, hL⟩ : ∃ l, l = L3 ++ uN [(a.ed.length : Int)] := ⟨_, rfl⟩
          rw [← hL] at WC hlL4
          have HL4 := Lib.hid hL
          clear hL hun
          go_loopw [4, 13] (fun v i wr => ∃ (vo : Value) (k : Nat), vo = v ∧ k ≤ a.ed.length ∧ i = .int .i64 k ∧ Hid (Wb w wr vo (L4 ++ ((a.ed.take k).map edB).flatten) #[.int .i64 a.er, .slice A a.sn.length c, .int .i64 a.nx, .slice B a.ce.length d, .slice D a.ed.length e, .int .i64 a.lf])) (fun _ i _ => a.ed.length - (intOf i).toNat)
          case atStart => exact ⟨_, 0, rfl, Nat.zero_le _, rfl, Lib.hid (by simpa using WC.out)⟩
          case round =>
            clear WC
            obtain ⟨vo, k, rfl, hk, rfl, WB⟩ := hrel
            (try simp only [List.append_eq, List.cons_append, List.nil_append])
            have hbb : wr.heap[q1]? = some (.cells #[.int .i64 a.er, .slice A a.sn.length c, .int .i64 a.nx, .slice B a.ce.length d, .slice D a.ed.length e, .int .i64 a.lf] 29 (0, 0)) := by rw [HQ1.out]; exact WB.out.b1
            obtain ⟨x0, x1, x2, x3, x4, x5⟩ := an_block hbb
            clear hbb
            by_cases hlt : k < a.ed.length
            · have hlI : (k : Int) < (a.ed.length : Int) := by omega
              obtain ⟨g, o, cs, hA, rfl, hc⟩ := H3.out.cellsAt (bel0 w) hlt
              subst hA
              have haa : (⟨g, o, none⟩ : Addr).add (k * 3) = ⟨g, o + k * 3, none⟩ := addr_add _ _ _
              have HSN := Lib.hid (show L4 ++ ((a.ed.take (k + 1)).map edB).flatten = (L4 ++ ((a.ed.take k).map edB).flatten) ++ edB a.ed[k] by rw [flat_snoc edB hlt, List.append_assoc])
              have hlen : (L4 ++ ((a.ed.take k).map edB).flatten).length ≤ 2000000000 := by
                have h1 := (flat_len (f := edB) (m := 140000) (a.ed.take k) (fun x _ => edB_len x)).1
                have h2 := List.length_take_le k a.ed
                have h3 : 140000 * (a.ed.take k).length ≤ 140000 * 10000 := Nat.mul_le_mul_left _ (by omega)
                rw [List.length_append]
                omega
              have e0 : wr.cell? ⟨g, o + k * 3, none⟩ = _ := (WB.out.bel.cell (p := ⟨g, o + k * 3, none⟩) (World.block_lt_of_cell? _ _ (hc 0 _ rfl))).trans (hc 0 _ rfl)
              have e1 : wr.cell? ⟨g, o + k * 3 + 1, none⟩ = _ := (WB.out.bel.cell (p := ⟨g, o + k * 3 + 1, none⟩) (World.block_lt_of_cell? _ _ (hc 1 _ rfl))).trans (hc 1 _ rfl)
              have e2 : wr.cell? ⟨g, o + k * 3 + 2, none⟩ = _ := (WB.out.bel.cell (p := ⟨g, o + k * 3 + 2, none⟩) (World.block_lt_of_cell? _ _ (hc 2 _ rfl))).trans (hc 2 _ rfl)
              clear hc
              generalize a.ed[k] = x at *
              generalize L4 ++ ((a.ed.take k).map edB).flatten = LL at *
              have hb5 := bel1 wr (.cells #[.string x.fr, .string x.to', .int .i64 x.ct] 58)
              have hq6 := heap_alloc_new wr (.cells #[.string x.fr, .string x.to', .int .i64 x.ct] 58)
              go_upto_region 24 with (fail)
              obtain ⟨W5, hW⟩ : ∃ W, W = wr.alloc (.cells #[.string x.fr, .string x.to', .int .i64 x.ct] 58) := ⟨_, rfl⟩
              rw [← hW] at hb5 hq6 ⊢
              clear hW
              obtain ⟨q14, hqq⟩ : ∃ q, q = wr.heap.size := ⟨_, rfl⟩
              rw [← hqq] at hq6 ⊢
              clear hqq
              have FwbA := Lib.hid (WB.out.below (nx hb5 (bel0 W5).drew))
              have FqeA := Lib.hid (blkB hq6 (bel0 W5).drew)
              have AK := Lib.hid (fun (W : World) (h : W.heap[q14]? = some (.cells #[.string x.fr, .string x.to', .int .i64 x.ct] 58 (0, 0))) => show (fun w' => w'.cell? ⟨q14, 0, none⟩ = some (.string x.fr) ∧ w'.cell? ⟨q14, 1, none⟩ = some (.string x.to') ∧ w'.cell? ⟨q14, 2, none⟩ = some (.int .i64 x.ct)) W from ⟨cell_of h 0, cell_of h 1, cell_of h 2⟩)
              have hun := uN_len [x.ct]
              have htn := tN_len [x.fr, x.to']
              simp only [List.length_cons, List.length_nil] at hun htn
              clear WB hb5 hq6 e0 e1 e2 x0 x1 x2 x3 x4 x5
              refine wp_region_held_drew (S := (fun w' => w'.cell? ⟨q14, 0, none⟩ = some (.string x.fr) ∧ w'.cell? ⟨q14, 1, none⟩ = some (.string x.to') ∧ w'.cell? ⟨q14, 2, none⟩ = some (.int .i64 x.ct))) (by kernel_rfl) (AK.out _ FqeA.out) (fun hHeld => ?_)
              refine' take_val (i := 0) (d := 134) (v := _) rfl rfl (by kernel_rfl) (by kernel_rfl) (by kernel_rfl) (fun _ _ _ h => h) (by rfl) ?_ (by assumption) ?_
              rotate_left
              · (intro w hSw; (try dsimp only at hSw); go_simp; (try with_reducible rfl))
              (try simp only [Act.put, List.setIfInBounds_toArray, List.set_cons_zero, List.set_cons_succ])
              refine' take_val (i := 1) (d := 135) (v := _) rfl rfl (by kernel_rfl) (by kernel_rfl) (by kernel_rfl) (fun _ _ _ h => h) (by rfl) ?_ (by assumption) ?_
              rotate_left
              · (intro w hSw; (try dsimp only at hSw); go_simp; (try with_reducible rfl))
              (try simp only [Act.put, List.setIfInBounds_toArray, List.set_cons_zero, List.set_cons_succ])
              refine' take_val (i := 2) (d := 136) (v := _) rfl rfl (by kernel_rfl) (by kernel_rfl) (by kernel_rfl) (fun _ _ _ h => h) (by rfl) ?_ (by assumption) ?_
              rotate_left
              · (intro w hSw; (try dsimp only at hSw); go_simp; (try with_reducible rfl))
              (try simp only [Act.put, List.setIfInBounds_toArray, List.set_cons_zero, List.set_cons_succ])
              refine' take_val (i := 3) (d := 137) (v := _) rfl rfl (by kernel_rfl) (by kernel_rfl) (by kernel_rfl) (fun _ _ _ h => h) (by rfl) ?_ (by assumption) ?_
              rotate_left
              · (intro w hSw; (try dsimp only at hSw); go_simp; (try with_reducible rfl))
              (try simp only [Act.put, List.setIfInBounds_toArray, List.set_cons_zero, List.set_cons_succ])
              refine' take_val (i := 4) (d := 138) (v := _) rfl rfl (by kernel_rfl) (by kernel_rfl) (by kernel_rfl) (fun _ _ _ h => h) (by rfl) ?_ (by assumption) ?_
              rotate_left
              · (intro w hSw; (try dsimp only at hSw); go_simp; (try with_reducible rfl))
              (try simp only [Act.put, List.setIfInBounds_toArray, List.set_cons_zero, List.set_cons_succ])
              refine' take_val (i := 8) (d := 142) (v := _) rfl rfl (by kernel_rfl) (by kernel_rfl) (by kernel_rfl) (fun _ _ _ h => h) (by rfl) ?_ (by assumption) ?_
              rotate_left
              · (intro w hSw; (try dsimp only at hSw); go_simp; (try with_reducible rfl))
              (try simp only [Act.put, List.setIfInBounds_toArray, List.set_cons_zero, List.set_cons_succ])
              refine' take_val (i := 9) (d := 143) (v := _) rfl rfl (by kernel_rfl) (by kernel_rfl) (by kernel_rfl) (fun _ _ _ h => h) (by rfl) ?_ (by assumption) ?_
              rotate_left
              · (intro w hSw; (try dsimp only at hSw); go_simp; (try with_reducible rfl))
              (try simp only [Act.put, List.setIfInBounds_toArray, List.set_cons_zero, List.set_cons_succ])
              obtain ⟨wd, hwd⟩ : ∃ W, W = W5.drew := ⟨_, rfl⟩
              rw [← hwd] at FwbA FqeA ⊢
              clear hwd hHeld
              refine wpAnyH_ready (rs := [5, 10]) (by kernel_rfl) (by simp) ?_
              refine (AllReadyH.cons rfl (fun K hK => ?_) (AllReadyH.cons rfl (fun K hK => ?_) AllReadyH.nil))
              · skip
                go_simp
                go_wp2_with fail
                have hg35 := heap_alloc_new wd (.cells ([x.fr, x.to'].map (Value.string)).toArray 9)
                have Fwb36 := Lib.hid (FwbA.out.below (bel1 wd (.cells ([x.fr, x.to'].map (Value.string)).toArray 9)))
                have Fqe36 := Lib.hid (blkB FqeA.out (bel1 wd (.cells ([x.fr, x.to'].map (Value.string)).toArray 9)))
                clear FwbA FqeA
                have Fgs35 := Lib.hid hg35
                clear hg35
                refine hK.out _ _ (AK.out _ Fqe36.out) (fun hHeld => ?_)
                clear hK K
                (try simp only [Act.put, List.getElem_toArray, List.getElem_cons_succ, List.getElem_cons_zero, List.setIfInBounds_toArray, List.set_cons_zero, List.set_cons_succ])
                obtain ⟨W35, hW⟩ : ∃ W, W = wd.alloc (.cells ([x.fr, x.to'].map (Value.string)).toArray 9) := ⟨_, rfl⟩
                obtain ⟨g35, hgq⟩ : ∃ g, g = wd.heap.size := ⟨_, rfl⟩
                change wpAnyH _ _ _ _ _ _ _ _ (wd.alloc (.cells ([x.fr, x.to'].map (Value.string)).toArray 9))
                rw [← hW] at Fwb36 Fqe36 Fgs35 ⊢
                rw [← hgq] at Fgs35 ⊢
                clear hW hgq hHeld
                refine wpAnyH_ready (rs := [6, 10]) (by kernel_rfl) (by simp) ?_
                refine (AllReadyH.cons rfl (fun K hK => ?_) (AllReadyH.cons rfl (fun K hK => ?_) AllReadyH.nil))
                · skip
                  go_simp
                  go_at_call 45
                  refine (rt27_bs (l := [x.fr, x.to']) (w := W35) Fgs35.out (by simp)).mono ?_
                  rintro r w37 ⟨A37, n37, c37, rfl, hB, hb⟩
                  clear Fgs35
                  have Fwb38 := Lib.hid (Fwb36.out.below hb)
                  have Fqe38 := Lib.hid (blkB Fqe36.out hb)
                  clear Fwb36 Fqe36
                  have Fbt37 := Lib.hid hB
                  clear hB hb
                  go_wp2_with fail
                  refine hK.out _ _ (AK.out _ Fqe38.out) (fun hHeld => ?_)
                  clear hK K
                  (try simp only [Act.put, List.getElem_toArray, List.getElem_cons_succ, List.getElem_cons_zero, List.setIfInBounds_toArray, List.set_cons_zero, List.set_cons_succ])
                  clear hHeld
                  refine wpAnyH_ready (rs := [7, 10]) (by kernel_rfl) (by simp) ?_
                  refine (AllReadyH.cons rfl (fun K hK => ?_) (AllReadyH.cons rfl (fun K hK => ?_) AllReadyH.nil))
                  · skip
                    rw [if_pos (by kernel_rfl)]
                    refine wp_append_bytes (.tmp 134) (.tmp 140) rfl w.heap.size vo (LL) (tN [x.fr, x.to']) rfl Fwb38.out.own A37 n37 c37 rfl Fbt37.out (by (try simp only [List.length_append]); omega) Fwb38.out.bel.size ?_
                    intro v39 w39 ho hg hv
                    clear Fbt37
                    have Fwb39 := Lib.hid (Fwb38.out.app ho hg)
                    have Fqe39 := Lib.hid (blkG Fwb38.out.own hg Fqe38.out (by decide))
                    clear ho hg hv Fwb38 Fqe38
                    refine hK.out _ _ (AK.out _ Fqe39.out) (fun hHeld => ?_)
                    clear hK K
                    (try simp only [Act.put, List.getElem_toArray, List.getElem_cons_succ, List.getElem_cons_zero, List.setIfInBounds_toArray, List.set_cons_zero, List.set_cons_succ])
                    clear hHeld
                    refine wpAnyH_ready (rs := [10]) (by kernel_rfl) (by simp) ?_
                    refine (AllReadyH.cons rfl (fun K hK => ?_) AllReadyH.nil)
                    go_simp
                    go_wp2_with fail
                    have hg40 := heap_alloc_new w39 (.cells ([x.ct].map (Value.int .i64)).toArray 3)
                    have Fwb41 := Lib.hid (Fwb39.out.below (bel1 w39 (.cells ([x.ct].map (Value.int .i64)).toArray 3)))
                    have Fqe41 := Lib.hid (blkB Fqe39.out (bel1 w39 (.cells ([x.ct].map (Value.int .i64)).toArray 3)))
                    clear Fwb39 Fqe39
                    have Fgi40 := Lib.hid hg40
                    clear hg40
                    refine hK.out _ _ (AK.out _ Fqe41.out) (fun hHeld => ?_)
                    clear hK K
                    (try simp only [Act.put, List.getElem_toArray, List.getElem_cons_succ, List.getElem_cons_zero, List.setIfInBounds_toArray, List.set_cons_zero, List.set_cons_succ])
                    obtain ⟨W40, hW⟩ : ∃ W, W = w39.alloc (.cells ([x.ct].map (Value.int .i64)).toArray 3) := ⟨_, rfl⟩
                    obtain ⟨g40, hgq⟩ : ∃ g, g = w39.heap.size := ⟨_, rfl⟩
                    change wpAnyH _ _ _ _ _ _ _ _ (w39.alloc (.cells ([x.ct].map (Value.int .i64)).toArray 3))
                    rw [← hW] at Fwb41 Fqe41 Fgi40 ⊢
                    rw [← hgq] at Fgi40 ⊢
                    clear hW hgq hHeld
                    refine wpAnyH_ready (rs := [11]) (by kernel_rfl) (by simp) ?_
                    refine (AllReadyH.cons rfl (fun K hK => ?_) AllReadyH.nil)
                    go_simp
                    go_at_call 43
                    refine (ru27_bs (l := [x.ct]) (w := W40) Fgi40.out (by simp)).mono ?_
                    rintro r w42 ⟨A42, n42, c42, rfl, hB, hb⟩
                    clear Fgi40
                    have Fwb43 := Lib.hid (Fwb41.out.below hb)
                    have Fqe43 := Lib.hid (blkB Fqe41.out hb)
                    clear Fwb41 Fqe41
                    have Fbu42 := Lib.hid hB
                    clear hB hb
                    go_wp2_with fail
                    refine hK.out _ _ (AK.out _ Fqe43.out) (fun hHeld => ?_)
                    clear hK K
                    (try simp only [Act.put, List.getElem_toArray, List.getElem_cons_succ, List.getElem_cons_zero, List.setIfInBounds_toArray, List.set_cons_zero, List.set_cons_succ])
                    clear hHeld
                    refine wpAnyH_ready (rs := [12]) (by kernel_rfl) (by simp) ?_
                    refine (AllReadyH.cons rfl (fun K hK => ?_) AllReadyH.nil)
                    rw [if_pos (by kernel_rfl)]
                    refine wp_append_bytes (.tmp 141) (.tmp 145) rfl w.heap.size v39 (LL ++ tN [x.fr, x.to']) (uN [x.ct]) rfl Fwb43.out.own A42 n42 c42 rfl Fbu42.out (by (try simp only [List.length_append]); omega) Fwb43.out.bel.size ?_
                    intro v44 w44 ho hg hv
                    clear Fbu42
                    have Fwb44 := Lib.hid (Fwb43.out.app ho hg)
                    have Fqe44 := Lib.hid (blkG Fwb43.out.own hg Fqe43.out (by decide))
                    clear ho hg hv Fwb43 Fqe43
                    refine hK.out _ _ (AK.out _ Fqe44.out) (fun hHeld => ?_)
                    clear hK K
                    (try simp only [Act.put, List.getElem_toArray, List.getElem_cons_succ, List.getElem_cons_zero, List.setIfInBounds_toArray, List.set_cons_zero, List.set_cons_succ])
                    clear hHeld
                    have hHeld := AK.out _ Fqe44.out
                    refine' take_val (i := 13) (d := 4) (v := _) rfl rfl (by kernel_rfl) (by kernel_rfl) (by kernel_rfl) (fun _ _ _ h => h) (by rfl) ?_ (by assumption) ?_
                    rotate_left
                    · (intro w hSw; (try dsimp only at hSw); go_simp; (try with_reducible rfl))
                    (try simp only [Act.put, List.setIfInBounds_toArray, List.set_cons_zero, List.set_cons_succ])
                    clear hHeld
                    clear AK
                    refine wpAnyH_done (by kernel_rfl) ?_ _
                    go_wp2_with fail
                    refine ⟨⟨_, k + 1, rfl, by omega, by go_num, Lib.hid ?_⟩, by simp [intOf]; omega⟩
                    rw [HSN.out]
                    have := Fwb44.out
                    unfold edB
                    simpa only [List.append_assoc] using this
                  · skip
                    go_simp
                    go_wp2_with fail
                    have hg45 := heap_alloc_new w37 (.cells ([x.ct].map (Value.int .i64)).toArray 3)
                    have Fwb46 := Lib.hid (Fwb38.out.below (bel1 w37 (.cells ([x.ct].map (Value.int .i64)).toArray 3)))
                    have Fqe46 := Lib.hid (blkB Fqe38.out (bel1 w37 (.cells ([x.ct].map (Value.int .i64)).toArray 3)))
                    have Fbt46 := Lib.hid (Fbt37.out.below (bel1 w37 (.cells ([x.ct].map (Value.int .i64)).toArray 3)))
                    clear Fwb38 Fqe38 Fbt37
                    have Fgi45 := Lib.hid hg45
                    clear hg45
                    refine hK.out _ _ (AK.out _ Fqe46.out) (fun hHeld => ?_)
                    clear hK K
                    (try simp only [Act.put, List.getElem_toArray, List.getElem_cons_succ, List.getElem_cons_zero, List.setIfInBounds_toArray, List.set_cons_zero, List.set_cons_succ])
                    obtain ⟨W45, hW⟩ : ∃ W, W = w37.alloc (.cells ([x.ct].map (Value.int .i64)).toArray 3) := ⟨_, rfl⟩
                    obtain ⟨g45, hgq⟩ : ∃ g, g = w37.heap.size := ⟨_, rfl⟩
                    change wpAnyH _ _ _ _ _ _ _ _ (w37.alloc (.cells ([x.ct].map (Value.int .i64)).toArray 3))
                    rw [← hW] at Fwb46 Fqe46 Fbt46 Fgi45 ⊢
                    rw [← hgq] at Fgi45 ⊢
                    clear hW hgq hHeld
                    refine wpAnyH_ready (rs := [7]) (by kernel_rfl) (by simp) ?_
                    refine (AllReadyH.cons rfl (fun K hK => ?_) AllReadyH.nil)
                    rw [if_pos (by kernel_rfl)]
                    refine wp_append_bytes (.tmp 134) (.tmp 140) rfl w.heap.size vo (LL) (tN [x.fr, x.to']) rfl Fwb46.out.own A37 n37 c37 rfl Fbt46.out (by (try simp only [List.length_append]); omega) Fwb46.out.bel.size ?_
                    intro v47 w47 ho hg hv
                    clear Fbt46
                    have Fwb47 := Lib.hid (Fwb46.out.app ho hg)
                    have Fqe47 := Lib.hid (blkG Fwb46.out.own hg Fqe46.out (by decide))
                    have Fgi47 := Lib.hid (blkG Fwb46.out.own hg Fgi45.out (by decide))
                    clear ho hg hv Fwb46 Fqe46 Fgi45
                    refine hK.out _ _ (AK.out _ Fqe47.out) (fun hHeld => ?_)
                    clear hK K
                    (try simp only [Act.put, List.getElem_toArray, List.getElem_cons_succ, List.getElem_cons_zero, List.setIfInBounds_toArray, List.set_cons_zero, List.set_cons_succ])
                    clear hHeld
                    refine wpAnyH_ready (rs := [11]) (by kernel_rfl) (by simp) ?_
                    refine (AllReadyH.cons rfl (fun K hK => ?_) AllReadyH.nil)
                    go_simp
                    go_at_call 43
                    refine (ru27_bs (l := [x.ct]) (w := w47) Fgi47.out (by simp)).mono ?_
                    rintro r w48 ⟨A48, n48, c48, rfl, hB, hb⟩
                    clear Fgi47
                    have Fwb49 := Lib.hid (Fwb47.out.below hb)
                    have Fqe49 := Lib.hid (blkB Fqe47.out hb)
                    clear Fwb47 Fqe47
                    have Fbu48 := Lib.hid hB
                    clear hB hb
                    go_wp2_with fail
                    refine hK.out _ _ (AK.out _ Fqe49.out) (fun hHeld => ?_)
                    clear hK K
                    (try simp only [Act.put, List.getElem_toArray, List.getElem_cons_succ, List.getElem_cons_zero, List.setIfInBounds_toArray, List.set_cons_zero, List.set_cons_succ])
                    clear hHeld
                    refine wpAnyH_ready (rs := [12]) (by kernel_rfl) (by simp) ?_
                    refine (AllReadyH.cons rfl (fun K hK => ?_) AllReadyH.nil)
                    rw [if_pos (by kernel_rfl)]
                    refine wp_append_bytes (.tmp 141) (.tmp 145) rfl w.heap.size v47 (LL ++ tN [x.fr, x.to']) (uN [x.ct]) rfl Fwb49.out.own A48 n48 c48 rfl Fbu48.out (by (try simp only [List.length_append]); omega) Fwb49.out.bel.size ?_
                    intro v50 w50 ho hg hv
                    clear Fbu48
                    have Fwb50 := Lib.hid (Fwb49.out.app ho hg)
                    have Fqe50 := Lib.hid (blkG Fwb49.out.own hg Fqe49.out (by decide))
                    clear ho hg hv Fwb49 Fqe49
                    refine hK.out _ _ (AK.out _ Fqe50.out) (fun hHeld => ?_)
                    clear hK K
                    (try simp only [Act.put, List.getElem_toArray, List.getElem_cons_succ, List.getElem_cons_zero, List.setIfInBounds_toArray, List.set_cons_zero, List.set_cons_succ])
                    clear hHeld
                    have hHeld := AK.out _ Fqe50.out
                    refine' take_val (i := 13) (d := 4) (v := _) rfl rfl (by kernel_rfl) (by kernel_rfl) (by kernel_rfl) (fun _ _ _ h => h) (by rfl) ?_ (by assumption) ?_
                    rotate_left
                    · (intro w hSw; (try dsimp only at hSw); go_simp; (try with_reducible rfl))
                    (try simp only [Act.put, List.setIfInBounds_toArray, List.set_cons_zero, List.set_cons_succ])
                    clear hHeld
                    clear AK
                    refine wpAnyH_done (by kernel_rfl) ?_ _
                    go_wp2_with fail
                    refine ⟨⟨_, k + 1, rfl, by omega, by go_num, Lib.hid ?_⟩, by simp [intOf]; omega⟩
                    rw [HSN.out]
                    have := Fwb50.out
                    unfold edB
                    simpa only [List.append_assoc] using this
                · skip
                  go_simp
                  go_wp2_with fail
                  have hg51 := heap_alloc_new W35 (.cells ([x.ct].map (Value.int .i64)).toArray 3)
                  have Fwb52 := Lib.hid (Fwb36.out.below (bel1 W35 (.cells ([x.ct].map (Value.int .i64)).toArray 3)))
                  have Fqe52 := Lib.hid (blkB Fqe36.out (bel1 W35 (.cells ([x.ct].map (Value.int .i64)).toArray 3)))
                  have Fgs52 := Lib.hid (blkB Fgs35.out (bel1 W35 (.cells ([x.ct].map (Value.int .i64)).toArray 3)))
                  clear Fwb36 Fqe36 Fgs35
                  have Fgi51 := Lib.hid hg51
                  clear hg51
                  refine hK.out _ _ (AK.out _ Fqe52.out) (fun hHeld => ?_)
                  clear hK K
                  (try simp only [Act.put, List.getElem_toArray, List.getElem_cons_succ, List.getElem_cons_zero, List.setIfInBounds_toArray, List.set_cons_zero, List.set_cons_succ])
                  obtain ⟨W51, hW⟩ : ∃ W, W = W35.alloc (.cells ([x.ct].map (Value.int .i64)).toArray 3) := ⟨_, rfl⟩
                  obtain ⟨g51, hgq⟩ : ∃ g, g = W35.heap.size := ⟨_, rfl⟩
                  change wpAnyH _ _ _ _ _ _ _ _ (W35.alloc (.cells ([x.ct].map (Value.int .i64)).toArray 3))
                  rw [← hW] at Fwb52 Fqe52 Fgs52 Fgi51 ⊢
                  rw [← hgq] at Fgi51 ⊢
                  clear hW hgq hHeld
                  refine wpAnyH_ready (rs := [6]) (by kernel_rfl) (by simp) ?_
                  refine (AllReadyH.cons rfl (fun K hK => ?_) AllReadyH.nil)
                  go_simp
                  go_at_call 45
                  refine (rt27_bs (l := [x.fr, x.to']) (w := W51) Fgs52.out (by simp)).mono ?_
                  rintro r w53 ⟨A53, n53, c53, rfl, hB, hb⟩
                  clear Fgs52
                  have Fwb54 := Lib.hid (Fwb52.out.below hb)
                  have Fqe54 := Lib.hid (blkB Fqe52.out hb)
                  have Fgi54 := Lib.hid (blkB Fgi51.out hb)
                  clear Fwb52 Fqe52 Fgi51
                  have Fbt53 := Lib.hid hB
                  clear hB hb
                  go_wp2_with fail
                  refine hK.out _ _ (AK.out _ Fqe54.out) (fun hHeld => ?_)
                  clear hK K
                  (try simp only [Act.put, List.getElem_toArray, List.getElem_cons_succ, List.getElem_cons_zero, List.setIfInBounds_toArray, List.set_cons_zero, List.set_cons_succ])
                  clear hHeld
                  refine wpAnyH_ready (rs := [7]) (by kernel_rfl) (by simp) ?_
                  refine (AllReadyH.cons rfl (fun K hK => ?_) AllReadyH.nil)
                  rw [if_pos (by kernel_rfl)]
                  refine wp_append_bytes (.tmp 134) (.tmp 140) rfl w.heap.size vo (LL) (tN [x.fr, x.to']) rfl Fwb54.out.own A53 n53 c53 rfl Fbt53.out (by (try simp only [List.length_append]); omega) Fwb54.out.bel.size ?_
                  intro v55 w55 ho hg hv
                  clear Fbt53
                  have Fwb55 := Lib.hid (Fwb54.out.app ho hg)
                  have Fqe55 := Lib.hid (blkG Fwb54.out.own hg Fqe54.out (by decide))
                  have Fgi55 := Lib.hid (blkG Fwb54.out.own hg Fgi54.out (by decide))
                  clear ho hg hv Fwb54 Fqe54 Fgi54
                  refine hK.out _ _ (AK.out _ Fqe55.out) (fun hHeld => ?_)
                  clear hK K
                  (try simp only [Act.put, List.getElem_toArray, List.getElem_cons_succ, List.getElem_cons_zero, List.setIfInBounds_toArray, List.set_cons_zero, List.set_cons_succ])
                  clear hHeld
                  refine wpAnyH_ready (rs := [11]) (by kernel_rfl) (by simp) ?_
                  refine (AllReadyH.cons rfl (fun K hK => ?_) AllReadyH.nil)
                  go_simp
                  go_at_call 43
                  refine (ru27_bs (l := [x.ct]) (w := w55) Fgi55.out (by simp)).mono ?_
                  rintro r w56 ⟨A56, n56, c56, rfl, hB, hb⟩
                  clear Fgi55
                  have Fwb57 := Lib.hid (Fwb55.out.below hb)
                  have Fqe57 := Lib.hid (blkB Fqe55.out hb)
                  clear Fwb55 Fqe55
                  have Fbu56 := Lib.hid hB
                  clear hB hb
                  go_wp2_with fail
                  refine hK.out _ _ (AK.out _ Fqe57.out) (fun hHeld => ?_)
                  clear hK K
                  (try simp only [Act.put, List.getElem_toArray, List.getElem_cons_succ, List.getElem_cons_zero, List.setIfInBounds_toArray, List.set_cons_zero, List.set_cons_succ])
                  clear hHeld
                  refine wpAnyH_ready (rs := [12]) (by kernel_rfl) (by simp) ?_
                  refine (AllReadyH.cons rfl (fun K hK => ?_) AllReadyH.nil)
                  rw [if_pos (by kernel_rfl)]
                  refine wp_append_bytes (.tmp 141) (.tmp 145) rfl w.heap.size v55 (LL ++ tN [x.fr, x.to']) (uN [x.ct]) rfl Fwb57.out.own A56 n56 c56 rfl Fbu56.out (by (try simp only [List.length_append]); omega) Fwb57.out.bel.size ?_
                  intro v58 w58 ho hg hv
                  clear Fbu56
                  have Fwb58 := Lib.hid (Fwb57.out.app ho hg)
                  have Fqe58 := Lib.hid (blkG Fwb57.out.own hg Fqe57.out (by decide))
                  clear ho hg hv Fwb57 Fqe57
                  refine hK.out _ _ (AK.out _ Fqe58.out) (fun hHeld => ?_)
                  clear hK K
                  (try simp only [Act.put, List.getElem_toArray, List.getElem_cons_succ, List.getElem_cons_zero, List.setIfInBounds_toArray, List.set_cons_zero, List.set_cons_succ])
                  clear hHeld
                  have hHeld := AK.out _ Fqe58.out
                  refine' take_val (i := 13) (d := 4) (v := _) rfl rfl (by kernel_rfl) (by kernel_rfl) (by kernel_rfl) (fun _ _ _ h => h) (by rfl) ?_ (by assumption) ?_
                  rotate_left
                  · (intro w hSw; (try dsimp only at hSw); go_simp; (try with_reducible rfl))
                  (try simp only [Act.put, List.setIfInBounds_toArray, List.set_cons_zero, List.set_cons_succ])
                  clear hHeld
                  clear AK
                  refine wpAnyH_done (by kernel_rfl) ?_ _
                  go_wp2_with fail
                  refine ⟨⟨_, k + 1, rfl, by omega, by go_num, Lib.hid ?_⟩, by simp [intOf]; omega⟩
                  rw [HSN.out]
                  have := Fwb58.out
                  unfold edB
                  simpa only [List.append_assoc] using this
              · skip
                go_simp
                go_wp2_with fail
                have hg59 := heap_alloc_new wd (.cells ([x.ct].map (Value.int .i64)).toArray 3)
                have Fwb60 := Lib.hid (FwbA.out.below (bel1 wd (.cells ([x.ct].map (Value.int .i64)).toArray 3)))
                have Fqe60 := Lib.hid (blkB FqeA.out (bel1 wd (.cells ([x.ct].map (Value.int .i64)).toArray 3)))
                clear FwbA FqeA
                have Fgi59 := Lib.hid hg59
                clear hg59
                refine hK.out _ _ (AK.out _ Fqe60.out) (fun hHeld => ?_)
                clear hK K
                (try simp only [Act.put, List.getElem_toArray, List.getElem_cons_succ, List.getElem_cons_zero, List.setIfInBounds_toArray, List.set_cons_zero, List.set_cons_succ])
                obtain ⟨W59, hW⟩ : ∃ W, W = wd.alloc (.cells ([x.ct].map (Value.int .i64)).toArray 3) := ⟨_, rfl⟩
                obtain ⟨g59, hgq⟩ : ∃ g, g = wd.heap.size := ⟨_, rfl⟩
                change wpAnyH _ _ _ _ _ _ _ _ (wd.alloc (.cells ([x.ct].map (Value.int .i64)).toArray 3))
                rw [← hW] at Fwb60 Fqe60 Fgi59 ⊢
                rw [← hgq] at Fgi59 ⊢
                clear hW hgq hHeld
                refine wpAnyH_ready (rs := [5]) (by kernel_rfl) (by simp) ?_
                refine (AllReadyH.cons rfl (fun K hK => ?_) AllReadyH.nil)
                go_simp
                go_wp2_with fail
                have hg61 := heap_alloc_new W59 (.cells ([x.fr, x.to'].map (Value.string)).toArray 9)
                have Fwb62 := Lib.hid (Fwb60.out.below (bel1 W59 (.cells ([x.fr, x.to'].map (Value.string)).toArray 9)))
                have Fqe62 := Lib.hid (blkB Fqe60.out (bel1 W59 (.cells ([x.fr, x.to'].map (Value.string)).toArray 9)))
                have Fgi62 := Lib.hid (blkB Fgi59.out (bel1 W59 (.cells ([x.fr, x.to'].map (Value.string)).toArray 9)))
                clear Fwb60 Fqe60 Fgi59
                have Fgs61 := Lib.hid hg61
                clear hg61
                refine hK.out _ _ (AK.out _ Fqe62.out) (fun hHeld => ?_)
                clear hK K
                (try simp only [Act.put, List.getElem_toArray, List.getElem_cons_succ, List.getElem_cons_zero, List.setIfInBounds_toArray, List.set_cons_zero, List.set_cons_succ])
                obtain ⟨W61, hW⟩ : ∃ W, W = W59.alloc (.cells ([x.fr, x.to'].map (Value.string)).toArray 9) := ⟨_, rfl⟩
                obtain ⟨g61, hgq⟩ : ∃ g, g = W59.heap.size := ⟨_, rfl⟩
                change wpAnyH _ _ _ _ _ _ _ _ (W59.alloc (.cells ([x.fr, x.to'].map (Value.string)).toArray 9))
                rw [← hW] at Fwb62 Fqe62 Fgi62 Fgs61 ⊢
                rw [← hgq] at Fgs61 ⊢
                clear hW hgq hHeld
                refine wpAnyH_ready (rs := [6]) (by kernel_rfl) (by simp) ?_
                refine (AllReadyH.cons rfl (fun K hK => ?_) AllReadyH.nil)
                go_simp
                go_at_call 45
                refine (rt27_bs (l := [x.fr, x.to']) (w := W61) Fgs61.out (by simp)).mono ?_
                rintro r w63 ⟨A63, n63, c63, rfl, hB, hb⟩
                clear Fgs61
                have Fwb64 := Lib.hid (Fwb62.out.below hb)
                have Fqe64 := Lib.hid (blkB Fqe62.out hb)
                have Fgi64 := Lib.hid (blkB Fgi62.out hb)
                clear Fwb62 Fqe62 Fgi62
                have Fbt63 := Lib.hid hB
                clear hB hb
                go_wp2_with fail
                refine hK.out _ _ (AK.out _ Fqe64.out) (fun hHeld => ?_)
                clear hK K
                (try simp only [Act.put, List.getElem_toArray, List.getElem_cons_succ, List.getElem_cons_zero, List.setIfInBounds_toArray, List.set_cons_zero, List.set_cons_succ])
                clear hHeld
                refine wpAnyH_ready (rs := [7]) (by kernel_rfl) (by simp) ?_
                refine (AllReadyH.cons rfl (fun K hK => ?_) AllReadyH.nil)
                rw [if_pos (by kernel_rfl)]
                refine wp_append_bytes (.tmp 134) (.tmp 140) rfl w.heap.size vo (LL) (tN [x.fr, x.to']) rfl Fwb64.out.own A63 n63 c63 rfl Fbt63.out (by (try simp only [List.length_append]); omega) Fwb64.out.bel.size ?_
                intro v65 w65 ho hg hv
                clear Fbt63
                have Fwb65 := Lib.hid (Fwb64.out.app ho hg)
                have Fqe65 := Lib.hid (blkG Fwb64.out.own hg Fqe64.out (by decide))
                have Fgi65 := Lib.hid (blkG Fwb64.out.own hg Fgi64.out (by decide))
                clear ho hg hv Fwb64 Fqe64 Fgi64
                refine hK.out _ _ (AK.out _ Fqe65.out) (fun hHeld => ?_)
                clear hK K
                (try simp only [Act.put, List.getElem_toArray, List.getElem_cons_succ, List.getElem_cons_zero, List.setIfInBounds_toArray, List.set_cons_zero, List.set_cons_succ])
                clear hHeld
                refine wpAnyH_ready (rs := [11]) (by kernel_rfl) (by simp) ?_
                refine (AllReadyH.cons rfl (fun K hK => ?_) AllReadyH.nil)
                go_simp
                go_at_call 43
                refine (ru27_bs (l := [x.ct]) (w := w65) Fgi65.out (by simp)).mono ?_
                rintro r w66 ⟨A66, n66, c66, rfl, hB, hb⟩
                clear Fgi65
                have Fwb67 := Lib.hid (Fwb65.out.below hb)
                have Fqe67 := Lib.hid (blkB Fqe65.out hb)
                clear Fwb65 Fqe65
                have Fbu66 := Lib.hid hB
                clear hB hb
                go_wp2_with fail
                refine hK.out _ _ (AK.out _ Fqe67.out) (fun hHeld => ?_)
                clear hK K
                (try simp only [Act.put, List.getElem_toArray, List.getElem_cons_succ, List.getElem_cons_zero, List.setIfInBounds_toArray, List.set_cons_zero, List.set_cons_succ])
                clear hHeld
                refine wpAnyH_ready (rs := [12]) (by kernel_rfl) (by simp) ?_
                refine (AllReadyH.cons rfl (fun K hK => ?_) AllReadyH.nil)
                rw [if_pos (by kernel_rfl)]
                refine wp_append_bytes (.tmp 141) (.tmp 145) rfl w.heap.size v65 (LL ++ tN [x.fr, x.to']) (uN [x.ct]) rfl Fwb67.out.own A66 n66 c66 rfl Fbu66.out (by (try simp only [List.length_append]); omega) Fwb67.out.bel.size ?_
                intro v68 w68 ho hg hv
                clear Fbu66
                have Fwb68 := Lib.hid (Fwb67.out.app ho hg)
                have Fqe68 := Lib.hid (blkG Fwb67.out.own hg Fqe67.out (by decide))
                clear ho hg hv Fwb67 Fqe67
                refine hK.out _ _ (AK.out _ Fqe68.out) (fun hHeld => ?_)
                clear hK K
                (try simp only [Act.put, List.getElem_toArray, List.getElem_cons_succ, List.getElem_cons_zero, List.setIfInBounds_toArray, List.set_cons_zero, List.set_cons_succ])
                clear hHeld
                have hHeld := AK.out _ Fqe68.out
                refine' take_val (i := 13) (d := 4) (v := _) rfl rfl (by kernel_rfl) (by kernel_rfl) (by kernel_rfl) (fun _ _ _ h => h) (by rfl) ?_ (by assumption) ?_
                rotate_left
                · (intro w hSw; (try dsimp only at hSw); go_simp; (try with_reducible rfl))
                (try simp only [Act.put, List.setIfInBounds_toArray, List.set_cons_zero, List.set_cons_succ])
                clear hHeld
                clear AK
                refine wpAnyH_done (by kernel_rfl) ?_ _
                go_wp2_with fail
                refine ⟨⟨_, k + 1, rfl, by omega, by go_num, Lib.hid ?_⟩, by simp [intOf]; omega⟩
                rw [HSN.out]
                have := Fwb68.out
                unfold edB
                simpa only [List.append_assoc] using this
            · obtain rfl : k = a.ed.length := by omega
              have WBs := Lib.hid (show Wb w wr vo (anB a) #[.int .i64 a.er, .slice A a.sn.length c, .int .i64 a.nx, .slice B a.ce.length d, .slice D a.ed.length e, .int .i64 a.lf] by
                have := WB.out
                rw [List.take_length, HL4.out, HL3.out, HL2.out, HL1.out, HUE.out] at this
                unfold anB lsB
                simpa only [List.append_assoc] using this)
              clear WB hk hlt
              go_wp2_with fail
              go_ret2
              rw [anP_yes HOK.out]
              exact ⟨_, rfl, WBs.out.own, WBs.out.bel⟩
end Go.Proofs.YtfedgjahbmcpoaaGreat
