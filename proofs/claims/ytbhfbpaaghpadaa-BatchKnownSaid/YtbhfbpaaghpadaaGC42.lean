/- The walk of the law BatchKnown. No conditions. -/
import Derived.Test.YtbhfbpaaghpadaaGC37
import Derived.Test.YtbhfbpaaghpadaaGC01
import Derived.Test.YtbhfbpaaghpadaaGC40
import Derived.Test.YtbhfbpaaghpadaaGC04
import Derived.Test.YtbhfbpaaghpadaaGC41
import Derived.Deep.RegionHeld3
import Derived.Deep.DeepCutAuto
set_option linter.unusedSimpArgs false
set_option linter.unusedVariables false
namespace Go.Proofs.Ytbhfbpaaghpadaa
open Go.RowKit

set_option maxHeartbeats 64000000 in
set_option maxRecDepth 100000 in
theorem batchKnown_walk (w : World) : Calls Try.prog 5 #[] w fun e w' => e = .returned (.bool true) ∧ Below w.heap.size w w' := by
  go_enter Try.func5, Try.ntmps5
  go_wp2_with fail
  go_loopw [1] (fun i wr => ∃ j : Nat, i = .int .i64 j ∧ j ≤ 20 ∧ Hid (Below w.heap.size w wr)) (fun i _ => 20 - (intOf i).toNat)
  case atStart => exact ⟨0, rfl, by omega, Lib.hid (bel0 w)⟩
  case round =>
    obtain ⟨j, rfl, hj, HB0⟩ := hrel
    by_cases hlt : j < 20
    · have hlti : (j : Int) < 20 := by omega
      go_wp2_with fail
      as_aux_lemma =>
      refine (chapter2_any _).mono ?_
      rintro e w1 ⟨g, rfl, hS, hg, hb1⟩
      have hb2 := nx HB0.out hb1
      have hgw : w.heap.size ≤ g := by have := HB0.out.size; omega
      obtain ⟨q, hqq⟩ : ∃ q, q = w1.heap.size := ⟨_, rfl⟩
      have hqw : w.heap.size ≤ q := by have := hb2.size; omega
      have hgq : g ≠ q := by have := (Array.getElem?_eq_some_iff.1 hS).1; omega
      have HX0 := Lib.hid (heap_alloc_new w1 (.cells #[.int .i64 1, .int .i64 2, .slice (some ⟨g, 0, none⟩) 1 1] 24))
      have HS0 := Lib.hid (hS.below (bel1 w1 (.cells #[.int .i64 1, .int .i64 2, .slice (some ⟨g, 0, none⟩) 1 1] 24)))
      have HB1 := Lib.hid (nx hb2 (bel1 w1 (.cells #[.int .i64 1, .int .i64 2, .slice (some ⟨g, 0, none⟩) 1 1] 24)))
      clear hb2 hb1 hS hg
      obtain ⟨c0, c1, c2⟩ := bat_block HX0.out
      have h0a : (⟨g, 0, none⟩ : Addr).add 0 = ⟨g, 0, none⟩ := addr_add _ _ _
      rw [← hqq] at HX0 c0 c1 c2
      go_upto_region 6 with (fail)
      obtain ⟨W, hW⟩ : ∃ W, W = w1.alloc (.cells #[.int .i64 1, .int .i64 2, .slice (some ⟨g, 0, none⟩) 1 1] 24) := ⟨_, rfl⟩
      (try rw [← hqq])
      rw [← hW] at HS0 HX0 HB1 c0 c1 c2 ⊢
      clear hW hqq
      rcases (show j = 0 ∨ j = 1 ∨ j = 2 ∨ j = 3 ∨ j = 4 ∨ j = 5 ∨ j = 6 ∨ j = 7 ∨ j = 8 ∨ j = 9 ∨ j = 10 ∨ j = 11 ∨ j = 12 ∨ j = 13 ∨ j = 14 ∨ j = 15 ∨ j = 16 ∨ j = 17 ∨ j = 18 ∨ j = 19 by omega) with hk0 | hk1 | hk2 | hk3 | hk4 | hk5 | hk6 | hk7 | hk8 | hk9 | hk10 | hk11 | hk12 | hk13 | hk14 | hk15 | hk16 | hk17 | hk18 | hk19
      · subst hk0
        as_aux_lemma =>
          obtain ⟨y0, y1⟩ : W.cell? ⟨q, 0, none⟩ = some _ ∧ W.frozen? ⟨q, 0, none⟩ = false := ⟨cell_of HX0.out 0, frozen_of HX0.out 0⟩
          have HL := Lib.hid (show LS (W.setCell ⟨q, 0, none⟩ (.int .i64 0)) (some ⟨g, 0, none⟩) 1 1 [chS] from LS.one (show BSp _ g chS (.slice none 0 0) from (Below.heap_setCell W ⟨q, 0, none⟩ (.int .i64 0) g hgq).trans HS0.out) (AS.none0 _))
          have HX := Lib.hid (heap_set HX0.out 0 (.int .i64 0))
          have HB := Lib.hid (HB1.out.setCell (p := ⟨q, 0, none⟩) hqw (.int .i64 0))
          go_upto_region 47 with (fail)
          obtain ⟨W2, hW2⟩ : ∃ W2, W2 = W.setCell ⟨q, 0, none⟩ (.int .i64 0) := ⟨_, rfl⟩
          change Code.wp _ _ _ _ (W.setCell ⟨q, 0, none⟩ (.int .i64 0))
          rw [← hW2] at HL HX HB ⊢
          clear hW2 y0 HS0 HX0 HB1 c0 c1 c2
          obtain ⟨c0, c1, c2⟩ := bat_block HX.out
          go_wp2_with fail
          refine (batBytes_any (b := ⟨0, 2, [chS]⟩) HL.out).mono ?_
          rw [btP_no (fun h => absurd h.1.ag.1 (by decide))]
          intro e w3 hh
          obtain ⟨A1, n1, k1, rfl, hB, hb3⟩ := hh.open (by intro x hx; cases hx) (by simp)
          obtain rfl : n1 = 0 := hB.len
          have HL3 := Lib.hid (HL.out.below hb3)
          have HX3 := Lib.hid (blk_bel HX.out hb3)
          have HB3 := Lib.hid (nx HB.out hb3)
          clear HL HX HB hB hh hb3 c0 c1 c2
          obtain ⟨c0, c1, c2⟩ := bat_block HX3.out
          go_wp2_with fail
          refine (batCheck_any (b := ⟨0, 2, [chS]⟩) HL3.out).mono ?_
          rw [btP_no (fun h => absurd h.1.ag.1 (by decide))]
          rintro e w4 ⟨rfl, hb4⟩
          have HB4 := Lib.hid (nx HB3.out hb4)
          clear HL3 HX3 HB3 hb4 c0 c1 c2
          go_wp2_with fail
          exact ⟨⟨1, rfl, by omega, HB4⟩, by simp [intOf]⟩
      · subst hk1
        as_aux_lemma =>
          obtain ⟨y0, y1⟩ : W.cell? ⟨q, 0, none⟩ = some _ ∧ W.frozen? ⟨q, 0, none⟩ = false := ⟨cell_of HX0.out 0, frozen_of HX0.out 0⟩
          have HL := Lib.hid (show LS (W.setCell ⟨q, 0, none⟩ (.int .i64 17)) (some ⟨g, 0, none⟩) 1 1 [chS] from LS.one (show BSp _ g chS (.slice none 0 0) from (Below.heap_setCell W ⟨q, 0, none⟩ (.int .i64 17) g hgq).trans HS0.out) (AS.none0 _))
          have HX := Lib.hid (heap_set HX0.out 0 (.int .i64 17))
          have HB := Lib.hid (HB1.out.setCell (p := ⟨q, 0, none⟩) hqw (.int .i64 17))
          go_upto_region 47 with (fail)
          obtain ⟨W2, hW2⟩ : ∃ W2, W2 = W.setCell ⟨q, 0, none⟩ (.int .i64 17) := ⟨_, rfl⟩
          change Code.wp _ _ _ _ (W.setCell ⟨q, 0, none⟩ (.int .i64 17))
          rw [← hW2] at HL HX HB ⊢
          clear hW2 y0 HS0 HX0 HB1 c0 c1 c2
          obtain ⟨c0, c1, c2⟩ := bat_block HX.out
          go_wp2_with fail
          refine (batBytes_any (b := ⟨17, 2, [chS]⟩) HL.out).mono ?_
          rw [btP_no (fun h => absurd h.1.ag.2 (by decide))]
          intro e w3 hh
          obtain ⟨A1, n1, k1, rfl, hB, hb3⟩ := hh.open (by intro x hx; cases hx) (by simp)
          obtain rfl : n1 = 0 := hB.len
          have HL3 := Lib.hid (HL.out.below hb3)
          have HX3 := Lib.hid (blk_bel HX.out hb3)
          have HB3 := Lib.hid (nx HB.out hb3)
          clear HL HX HB hB hh hb3 c0 c1 c2
          obtain ⟨c0, c1, c2⟩ := bat_block HX3.out
          go_wp2_with fail
          refine (batCheck_any (b := ⟨17, 2, [chS]⟩) HL3.out).mono ?_
          rw [btP_no (fun h => absurd h.1.ag.2 (by decide))]
          rintro e w4 ⟨rfl, hb4⟩
          have HB4 := Lib.hid (nx HB3.out hb4)
          clear HL3 HX3 HB3 hb4 c0 c1 c2
          go_wp2_with fail
          exact ⟨⟨2, rfl, by omega, HB4⟩, by simp [intOf]⟩
      · subst hk2
        as_aux_lemma =>
          obtain ⟨y0, y1⟩ : W.cell? ⟨q, 1, none⟩ = some _ ∧ W.frozen? ⟨q, 1, none⟩ = false := ⟨cell_of HX0.out 1, frozen_of HX0.out 1⟩
          have HL := Lib.hid (show LS (W.setCell ⟨q, 1, none⟩ (.int .i64 0)) (some ⟨g, 0, none⟩) 1 1 [chS] from LS.one (show BSp _ g chS (.slice none 0 0) from (Below.heap_setCell W ⟨q, 1, none⟩ (.int .i64 0) g hgq).trans HS0.out) (AS.none0 _))
          have HX := Lib.hid (heap_set HX0.out 1 (.int .i64 0))
          have HB := Lib.hid (HB1.out.setCell (p := ⟨q, 1, none⟩) hqw (.int .i64 0))
          go_upto_region 47 with (fail)
          obtain ⟨W2, hW2⟩ : ∃ W2, W2 = W.setCell ⟨q, 1, none⟩ (.int .i64 0) := ⟨_, rfl⟩
          change Code.wp _ _ _ _ (W.setCell ⟨q, 1, none⟩ (.int .i64 0))
          rw [← hW2] at HL HX HB ⊢
          clear hW2 y0 HS0 HX0 HB1 c0 c1 c2
          obtain ⟨c0, c1, c2⟩ := bat_block HX.out
          go_wp2_with fail
          refine (batBytes_any (b := ⟨1, 0, [chS]⟩) HL.out).mono ?_
          rw [btP_no (fun h => absurd h.1.sq.1 (by decide))]
          intro e w3 hh
          obtain ⟨A1, n1, k1, rfl, hB, hb3⟩ := hh.open (by intro x hx; cases hx) (by simp)
          obtain rfl : n1 = 0 := hB.len
          have HL3 := Lib.hid (HL.out.below hb3)
          have HX3 := Lib.hid (blk_bel HX.out hb3)
          have HB3 := Lib.hid (nx HB.out hb3)
          clear HL HX HB hB hh hb3 c0 c1 c2
          obtain ⟨c0, c1, c2⟩ := bat_block HX3.out
          go_wp2_with fail
          refine (batCheck_any (b := ⟨1, 0, [chS]⟩) HL3.out).mono ?_
          rw [btP_no (fun h => absurd h.1.sq.1 (by decide))]
          rintro e w4 ⟨rfl, hb4⟩
          have HB4 := Lib.hid (nx HB3.out hb4)
          clear HL3 HX3 HB3 hb4 c0 c1 c2
          go_wp2_with fail
          exact ⟨⟨3, rfl, by omega, HB4⟩, by simp [intOf]⟩
      · subst hk3
        as_aux_lemma =>
          obtain ⟨y0, y1⟩ : W.cell? ⟨q, 1, none⟩ = some _ ∧ W.frozen? ⟨q, 1, none⟩ = false := ⟨cell_of HX0.out 1, frozen_of HX0.out 1⟩
          have HL := Lib.hid (show LS (W.setCell ⟨q, 1, none⟩ (.int .i64 9007199254740992)) (some ⟨g, 0, none⟩) 1 1 [chS] from LS.one (show BSp _ g chS (.slice none 0 0) from (Below.heap_setCell W ⟨q, 1, none⟩ (.int .i64 9007199254740992) g hgq).trans HS0.out) (AS.none0 _))
          have HX := Lib.hid (heap_set HX0.out 1 (.int .i64 9007199254740992))
          have HB := Lib.hid (HB1.out.setCell (p := ⟨q, 1, none⟩) hqw (.int .i64 9007199254740992))
          go_upto_region 47 with (fail)
          obtain ⟨W2, hW2⟩ : ∃ W2, W2 = W.setCell ⟨q, 1, none⟩ (.int .i64 9007199254740992) := ⟨_, rfl⟩
          change Code.wp _ _ _ _ (W.setCell ⟨q, 1, none⟩ (.int .i64 9007199254740992))
          rw [← hW2] at HL HX HB ⊢
          clear hW2 y0 HS0 HX0 HB1 c0 c1 c2
          obtain ⟨c0, c1, c2⟩ := bat_block HX.out
          go_wp2_with fail
          refine (batBytes_any (b := ⟨1, 9007199254740992, [chS]⟩) HL.out).mono ?_
          rw [btP_no (fun h => absurd h.1.sq.2 (by decide))]
          intro e w3 hh
          obtain ⟨A1, n1, k1, rfl, hB, hb3⟩ := hh.open (by intro x hx; cases hx) (by simp)
          obtain rfl : n1 = 0 := hB.len
          have HL3 := Lib.hid (HL.out.below hb3)
          have HX3 := Lib.hid (blk_bel HX.out hb3)
          have HB3 := Lib.hid (nx HB.out hb3)
          clear HL HX HB hB hh hb3 c0 c1 c2
          obtain ⟨c0, c1, c2⟩ := bat_block HX3.out
          go_wp2_with fail
          refine (batCheck_any (b := ⟨1, 9007199254740992, [chS]⟩) HL3.out).mono ?_
          rw [btP_no (fun h => absurd h.1.sq.2 (by decide))]
          rintro e w4 ⟨rfl, hb4⟩
          have HB4 := Lib.hid (nx HB3.out hb4)
          clear HL3 HX3 HB3 hb4 c0 c1 c2
          go_wp2_with fail
          exact ⟨⟨4, rfl, by omega, HB4⟩, by simp [intOf]⟩
      · subst hk4
        as_aux_lemma =>
          obtain ⟨y0, y1⟩ : W.cell? ⟨q, 2, none⟩ = some _ ∧ W.frozen? ⟨q, 2, none⟩ = false := ⟨cell_of HX0.out 2, frozen_of HX0.out 2⟩
          have HL := Lib.hid (LS.zero (W.setCell ⟨q, 2, none⟩ (.slice none 0 0)))
          have HX := Lib.hid (heap_set HX0.out 2 (.slice none 0 0))
          have HB := Lib.hid (HB1.out.setCell (p := ⟨q, 2, none⟩) hqw (.slice none 0 0))
          go_upto_region 47 with (fail)
          obtain ⟨W2, hW2⟩ : ∃ W2, W2 = W.setCell ⟨q, 2, none⟩ (.slice none 0 0) := ⟨_, rfl⟩
          change Code.wp _ _ _ _ (W.setCell ⟨q, 2, none⟩ (.slice none 0 0))
          rw [← hW2] at HL HX HB ⊢
          clear hW2 y0 HS0 HX0 HB1 c0 c1 c2
          obtain ⟨c0, c1, c2⟩ := bat_block HX.out
          go_wp2_with fail
          refine (batBytes_any (b := ⟨1, 2, []⟩) HL.out).mono ?_
          rw [btP_no (fun h => absurd h.1.n.1 (by decide))]
          intro e w3 hh
          obtain ⟨A1, n1, k1, rfl, hB, hb3⟩ := hh.open (by intro x hx; cases hx) (by simp)
          obtain rfl : n1 = 0 := hB.len
          have HL3 := Lib.hid (HL.out.below hb3)
          have HX3 := Lib.hid (blk_bel HX.out hb3)
          have HB3 := Lib.hid (nx HB.out hb3)
          clear HL HX HB hB hh hb3 c0 c1 c2
          obtain ⟨c0, c1, c2⟩ := bat_block HX3.out
          go_wp2_with fail
          refine (batCheck_any (b := ⟨1, 2, []⟩) HL3.out).mono ?_
          rw [btP_no (fun h => absurd h.1.n.1 (by decide))]
          rintro e w4 ⟨rfl, hb4⟩
          have HB4 := Lib.hid (nx HB3.out hb4)
          clear HL3 HX3 HB3 hb4 c0 c1 c2
          go_wp2_with fail
          exact ⟨⟨5, rfl, by omega, HB4⟩, by simp [intOf]⟩
      · subst hk5
        as_aux_lemma =>
          obtain ⟨c, w', R, hrz, hc17, hn17, hbg⟩ := grow17 HS0.out
          have hX1 := blk_bel HX0.out hbg
          have hgl := (Array.getElem?_eq_some_iff.1 HX0.out).1
          have hB1 := nx HB1.out hbg
          obtain ⟨y0, y1⟩ : w'.cell? ⟨q, 2, none⟩ = some _ ∧ w'.frozen? ⟨q, 2, none⟩ = false := ⟨cell_of hX1 2, frozen_of hX1 2⟩
          go_upto_region 47 with (at_builtin; refine Lib.wpList_append_run _ rfl _ _ _ _ rfl _ _ rfl rfl _ _ (hrz _) ?_)
          have HL := Lib.hid (ls17 ((Below.heap_setCell w' ⟨q, 2, none⟩ (.slice (some ⟨W.heap.size, 0, none⟩) 17 c) W.heap.size (show W.heap.size ≠ q by omega)).trans hn17) hc17)
          have HX := Lib.hid (heap_set hX1 2 (.slice (some ⟨W.heap.size, 0, none⟩) 17 c))
          have HB := Lib.hid (hB1.setCell (p := ⟨q, 2, none⟩) hqw (.slice (some ⟨W.heap.size, 0, none⟩) 17 c))
          
          obtain ⟨W2, hW2⟩ : ∃ W2, W2 = w'.setCell ⟨q, 2, none⟩ (.slice (some ⟨W.heap.size, 0, none⟩) 17 c) := ⟨_, rfl⟩
          change Code.wp _ _ _ _ (w'.setCell ⟨q, 2, none⟩ (.slice (some ⟨W.heap.size, 0, none⟩) 17 c))
          rw [← hW2] at HL HX HB ⊢
          clear hW2 y0 HS0 HX0 HB1 c0 c1 c2
          obtain ⟨c0, c1, c2⟩ := bat_block HX.out
          go_wp2_with fail
          refine (batBytes_any (b := ⟨1, 2, sp17⟩) HL.out).mono ?_
          rw [btP_no no_17]
          intro e w3 hh
          obtain ⟨A1, n1, k1, rfl, hB, hb3⟩ := hh.open (by intro x hx; cases hx) (by simp)
          obtain rfl : n1 = 0 := hB.len
          have HL3 := Lib.hid (HL.out.below hb3)
          have HX3 := Lib.hid (blk_bel HX.out hb3)
          have HB3 := Lib.hid (nx HB.out hb3)
          clear HL HX HB hB hh hb3 c0 c1 c2
          obtain ⟨c0, c1, c2⟩ := bat_block HX3.out
          go_wp2_with fail
          refine (batCheck_any (b := ⟨1, 2, sp17⟩) HL3.out).mono ?_
          rw [btP_no no_17]
          rintro e w4 ⟨rfl, hb4⟩
          have HB4 := Lib.hid (nx HB3.out hb4)
          clear HL3 HX3 HB3 hb4 c0 c1 c2
          go_wp2_with fail
          exact ⟨⟨6, rfl, by omega, HB4⟩, by simp [intOf]⟩
      · subst hk6
        as_aux_lemma =>
          obtain ⟨y0, y1⟩ : W.cell? ⟨g, 0, none⟩ = some _ ∧ W.frozen? ⟨g, 0, none⟩ = false := ⟨cell_of HS0.out 0, frozen_of HS0.out 0⟩
          have HL := Lib.hid (show LS (W.setCell ⟨g, 0, none⟩ (.int .i64 0)) (some ⟨g, 0, none⟩) 1 1 [(⟨0, 4, 0, ⟨#[97]⟩, ⟨#[98]⟩, 5, 6, ⟨#[]⟩, []⟩ : Spn)] from LS.one (show BSp _ g (⟨0, 4, 0, ⟨#[97]⟩, ⟨#[98]⟩, 5, 6, ⟨#[]⟩, []⟩ : Spn) (.slice none 0 0) from heap_set HS0.out 0 _) (AS.none0 _))
          have HX := Lib.hid ((Below.heap_setCell W ⟨g, 0, none⟩ (.int .i64 0) q (Ne.symm hgq)).trans HX0.out)
          have HB := Lib.hid (HB1.out.setCell (p := ⟨g, 0, none⟩) hgw (.int .i64 0))
          go_upto_region 47 with (fail)
          obtain ⟨W2, hW2⟩ : ∃ W2, W2 = W.setCell ⟨g, 0, none⟩ (.int .i64 0) := ⟨_, rfl⟩
          change Code.wp _ _ _ _ (W.setCell ⟨g, 0, none⟩ (.int .i64 0))
          rw [← hW2] at HL HX HB ⊢
          clear hW2 y0 HS0 HX0 HB1 c0 c1 c2
          obtain ⟨c0, c1, c2⟩ := bat_block HX.out
          go_wp2_with fail
          refine (batBytes_any (b := ⟨1, 2, [(⟨0, 4, 0, ⟨#[97]⟩, ⟨#[98]⟩, 5, 6, ⟨#[]⟩, []⟩ : Spn)]⟩) HL.out).mono ?_
          rw [btP_no (no_ok (by decide +kernel))]
          intro e w3 hh
          obtain ⟨A1, n1, k1, rfl, hB, hb3⟩ := hh.open (by intro x hx; cases hx) (by simp)
          obtain rfl : n1 = 0 := hB.len
          have HL3 := Lib.hid (HL.out.below hb3)
          have HX3 := Lib.hid (blk_bel HX.out hb3)
          have HB3 := Lib.hid (nx HB.out hb3)
          clear HL HX HB hB hh hb3 c0 c1 c2
          obtain ⟨c0, c1, c2⟩ := bat_block HX3.out
          go_wp2_with fail
          refine (batCheck_any (b := ⟨1, 2, [(⟨0, 4, 0, ⟨#[97]⟩, ⟨#[98]⟩, 5, 6, ⟨#[]⟩, []⟩ : Spn)]⟩) HL3.out).mono ?_
          rw [btP_no (no_ok (by decide +kernel))]
          rintro e w4 ⟨rfl, hb4⟩
          have HB4 := Lib.hid (nx HB3.out hb4)
          clear HL3 HX3 HB3 hb4 c0 c1 c2
          go_wp2_with fail
          exact ⟨⟨7, rfl, by omega, HB4⟩, by simp [intOf]⟩
      · subst hk7
        as_aux_lemma =>
          obtain ⟨y0, y1⟩ : W.cell? ⟨g, 1, none⟩ = some _ ∧ W.frozen? ⟨g, 1, none⟩ = false := ⟨cell_of HS0.out 1, frozen_of HS0.out 1⟩
          have HL := Lib.hid (show LS (W.setCell ⟨g, 1, none⟩ (.int .i64 0)) (some ⟨g, 0, none⟩) 1 1 [(⟨3, 0, 0, ⟨#[97]⟩, ⟨#[98]⟩, 5, 6, ⟨#[]⟩, []⟩ : Spn)] from LS.one (show BSp _ g (⟨3, 0, 0, ⟨#[97]⟩, ⟨#[98]⟩, 5, 6, ⟨#[]⟩, []⟩ : Spn) (.slice none 0 0) from heap_set HS0.out 1 _) (AS.none0 _))
          have HX := Lib.hid ((Below.heap_setCell W ⟨g, 1, none⟩ (.int .i64 0) q (Ne.symm hgq)).trans HX0.out)
          have HB := Lib.hid (HB1.out.setCell (p := ⟨g, 1, none⟩) hgw (.int .i64 0))
          go_upto_region 47 with (fail)
          obtain ⟨W2, hW2⟩ : ∃ W2, W2 = W.setCell ⟨g, 1, none⟩ (.int .i64 0) := ⟨_, rfl⟩
          change Code.wp _ _ _ _ (W.setCell ⟨g, 1, none⟩ (.int .i64 0))
          rw [← hW2] at HL HX HB ⊢
          clear hW2 y0 HS0 HX0 HB1 c0 c1 c2
          obtain ⟨c0, c1, c2⟩ := bat_block HX.out
          go_wp2_with fail
          refine (batBytes_any (b := ⟨1, 2, [(⟨3, 0, 0, ⟨#[97]⟩, ⟨#[98]⟩, 5, 6, ⟨#[]⟩, []⟩ : Spn)]⟩) HL.out).mono ?_
          rw [btP_no (no_ok (by decide +kernel))]
          intro e w3 hh
          obtain ⟨A1, n1, k1, rfl, hB, hb3⟩ := hh.open (by intro x hx; cases hx) (by simp)
          obtain rfl : n1 = 0 := hB.len
          have HL3 := Lib.hid (HL.out.below hb3)
          have HX3 := Lib.hid (blk_bel HX.out hb3)
          have HB3 := Lib.hid (nx HB.out hb3)
          clear HL HX HB hB hh hb3 c0 c1 c2
          obtain ⟨c0, c1, c2⟩ := bat_block HX3.out
          go_wp2_with fail
          refine (batCheck_any (b := ⟨1, 2, [(⟨3, 0, 0, ⟨#[97]⟩, ⟨#[98]⟩, 5, 6, ⟨#[]⟩, []⟩ : Spn)]⟩) HL3.out).mono ?_
          rw [btP_no (no_ok (by decide +kernel))]
          rintro e w4 ⟨rfl, hb4⟩
          have HB4 := Lib.hid (nx HB3.out hb4)
          clear HL3 HX3 HB3 hb4 c0 c1 c2
          go_wp2_with fail
          exact ⟨⟨8, rfl, by omega, HB4⟩, by simp [intOf]⟩
      · subst hk8
        as_aux_lemma =>
          obtain ⟨y0, y1⟩ : W.cell? ⟨g, 2, none⟩ = some _ ∧ W.frozen? ⟨g, 2, none⟩ = false := ⟨cell_of HS0.out 2, frozen_of HS0.out 2⟩
          have HL := Lib.hid (show LS (W.setCell ⟨g, 2, none⟩ (.int .i64 (-1))) (some ⟨g, 0, none⟩) 1 1 [(⟨3, 4, -1, ⟨#[97]⟩, ⟨#[98]⟩, 5, 6, ⟨#[]⟩, []⟩ : Spn)] from LS.one (show BSp _ g (⟨3, 4, -1, ⟨#[97]⟩, ⟨#[98]⟩, 5, 6, ⟨#[]⟩, []⟩ : Spn) (.slice none 0 0) from heap_set HS0.out 2 _) (AS.none0 _))
          have HX := Lib.hid ((Below.heap_setCell W ⟨g, 2, none⟩ (.int .i64 (-1)) q (Ne.symm hgq)).trans HX0.out)
          have HB := Lib.hid (HB1.out.setCell (p := ⟨g, 2, none⟩) hgw (.int .i64 (-1)))
          go_upto_region 47 with (fail)
          obtain ⟨W2, hW2⟩ : ∃ W2, W2 = W.setCell ⟨g, 2, none⟩ (.int .i64 (-1)) := ⟨_, rfl⟩
          change Code.wp _ _ _ _ (W.setCell ⟨g, 2, none⟩ (.int .i64 (-1)))
          rw [← hW2] at HL HX HB ⊢
          clear hW2 y0 HS0 HX0 HB1 c0 c1 c2
          obtain ⟨c0, c1, c2⟩ := bat_block HX.out
          go_wp2_with fail
          refine (batBytes_any (b := ⟨1, 2, [(⟨3, 4, -1, ⟨#[97]⟩, ⟨#[98]⟩, 5, 6, ⟨#[]⟩, []⟩ : Spn)]⟩) HL.out).mono ?_
          rw [btP_no (no_ok (by decide +kernel))]
          intro e w3 hh
          obtain ⟨A1, n1, k1, rfl, hB, hb3⟩ := hh.open (by intro x hx; cases hx) (by simp)
          obtain rfl : n1 = 0 := hB.len
          have HL3 := Lib.hid (HL.out.below hb3)
          have HX3 := Lib.hid (blk_bel HX.out hb3)
          have HB3 := Lib.hid (nx HB.out hb3)
          clear HL HX HB hB hh hb3 c0 c1 c2
          obtain ⟨c0, c1, c2⟩ := bat_block HX3.out
          go_wp2_with fail
          refine (batCheck_any (b := ⟨1, 2, [(⟨3, 4, -1, ⟨#[97]⟩, ⟨#[98]⟩, 5, 6, ⟨#[]⟩, []⟩ : Spn)]⟩) HL3.out).mono ?_
          rw [btP_no (no_ok (by decide +kernel))]
          rintro e w4 ⟨rfl, hb4⟩
          have HB4 := Lib.hid (nx HB3.out hb4)
          clear HL3 HX3 HB3 hb4 c0 c1 c2
          go_wp2_with fail
          exact ⟨⟨9, rfl, by omega, HB4⟩, by simp [intOf]⟩
      · subst hk9
        as_aux_lemma =>
          obtain ⟨y0, y1⟩ : W.cell? ⟨g, 2, none⟩ = some _ ∧ W.frozen? ⟨g, 2, none⟩ = false := ⟨cell_of HS0.out 2, frozen_of HS0.out 2⟩
          have HL := Lib.hid (show LS (W.setCell ⟨g, 2, none⟩ (.int .i64 9007199254740992)) (some ⟨g, 0, none⟩) 1 1 [(⟨3, 4, 9007199254740992, ⟨#[97]⟩, ⟨#[98]⟩, 5, 6, ⟨#[]⟩, []⟩ : Spn)] from LS.one (show BSp _ g (⟨3, 4, 9007199254740992, ⟨#[97]⟩, ⟨#[98]⟩, 5, 6, ⟨#[]⟩, []⟩ : Spn) (.slice none 0 0) from heap_set HS0.out 2 _) (AS.none0 _))
          have HX := Lib.hid ((Below.heap_setCell W ⟨g, 2, none⟩ (.int .i64 9007199254740992) q (Ne.symm hgq)).trans HX0.out)
          have HB := Lib.hid (HB1.out.setCell (p := ⟨g, 2, none⟩) hgw (.int .i64 9007199254740992))
          go_upto_region 47 with (fail)
          obtain ⟨W2, hW2⟩ : ∃ W2, W2 = W.setCell ⟨g, 2, none⟩ (.int .i64 9007199254740992) := ⟨_, rfl⟩
          change Code.wp _ _ _ _ (W.setCell ⟨g, 2, none⟩ (.int .i64 9007199254740992))
          rw [← hW2] at HL HX HB ⊢
          clear hW2 y0 HS0 HX0 HB1 c0 c1 c2
          obtain ⟨c0, c1, c2⟩ := bat_block HX.out
          go_wp2_with fail
          refine (batBytes_any (b := ⟨1, 2, [(⟨3, 4, 9007199254740992, ⟨#[97]⟩, ⟨#[98]⟩, 5, 6, ⟨#[]⟩, []⟩ : Spn)]⟩) HL.out).mono ?_
          rw [btP_no (no_ok (by decide +kernel))]
          intro e w3 hh
          obtain ⟨A1, n1, k1, rfl, hB, hb3⟩ := hh.open (by intro x hx; cases hx) (by simp)
          obtain rfl : n1 = 0 := hB.len
          have HL3 := Lib.hid (HL.out.below hb3)
          have HX3 := Lib.hid (blk_bel HX.out hb3)
          have HB3 := Lib.hid (nx HB.out hb3)
          clear HL HX HB hB hh hb3 c0 c1 c2
          obtain ⟨c0, c1, c2⟩ := bat_block HX3.out
          go_wp2_with fail
          refine (batCheck_any (b := ⟨1, 2, [(⟨3, 4, 9007199254740992, ⟨#[97]⟩, ⟨#[98]⟩, 5, 6, ⟨#[]⟩, []⟩ : Spn)]⟩) HL3.out).mono ?_
          rw [btP_no (no_ok (by decide +kernel))]
          rintro e w4 ⟨rfl, hb4⟩
          have HB4 := Lib.hid (nx HB3.out hb4)
          clear HL3 HX3 HB3 hb4 c0 c1 c2
          go_wp2_with fail
          exact ⟨⟨10, rfl, by omega, HB4⟩, by simp [intOf]⟩
      · subst hk10
        as_aux_lemma =>
          obtain ⟨y0, y1⟩ : W.cell? ⟨g, 5, none⟩ = some _ ∧ W.frozen? ⟨g, 5, none⟩ = false := ⟨cell_of HS0.out 5, frozen_of HS0.out 5⟩
          have HL := Lib.hid (show LS (W.setCell ⟨g, 5, none⟩ (.int .i64 (-1))) (some ⟨g, 0, none⟩) 1 1 [(⟨3, 4, 0, ⟨#[97]⟩, ⟨#[98]⟩, -1, 6, ⟨#[]⟩, []⟩ : Spn)] from LS.one (show BSp _ g (⟨3, 4, 0, ⟨#[97]⟩, ⟨#[98]⟩, -1, 6, ⟨#[]⟩, []⟩ : Spn) (.slice none 0 0) from heap_set HS0.out 5 _) (AS.none0 _))
          have HX := Lib.hid ((Below.heap_setCell W ⟨g, 5, none⟩ (.int .i64 (-1)) q (Ne.symm hgq)).trans HX0.out)
          have HB := Lib.hid (HB1.out.setCell (p := ⟨g, 5, none⟩) hgw (.int .i64 (-1)))
          go_upto_region 47 with (fail)
          obtain ⟨W2, hW2⟩ : ∃ W2, W2 = W.setCell ⟨g, 5, none⟩ (.int .i64 (-1)) := ⟨_, rfl⟩
          change Code.wp _ _ _ _ (W.setCell ⟨g, 5, none⟩ (.int .i64 (-1)))
          rw [← hW2] at HL HX HB ⊢
          clear hW2 y0 HS0 HX0 HB1 c0 c1 c2
          obtain ⟨c0, c1, c2⟩ := bat_block HX.out
          go_wp2_with fail
          refine (batBytes_any (b := ⟨1, 2, [(⟨3, 4, 0, ⟨#[97]⟩, ⟨#[98]⟩, -1, 6, ⟨#[]⟩, []⟩ : Spn)]⟩) HL.out).mono ?_
          rw [btP_no (no_ok (by decide +kernel))]
          intro e w3 hh
          obtain ⟨A1, n1, k1, rfl, hB, hb3⟩ := hh.open (by intro x hx; cases hx) (by simp)
          obtain rfl : n1 = 0 := hB.len
          have HL3 := Lib.hid (HL.out.below hb3)
          have HX3 := Lib.hid (blk_bel HX.out hb3)
          have HB3 := Lib.hid (nx HB.out hb3)
          clear HL HX HB hB hh hb3 c0 c1 c2
          obtain ⟨c0, c1, c2⟩ := bat_block HX3.out
          go_wp2_with fail
          refine (batCheck_any (b := ⟨1, 2, [(⟨3, 4, 0, ⟨#[97]⟩, ⟨#[98]⟩, -1, 6, ⟨#[]⟩, []⟩ : Spn)]⟩) HL3.out).mono ?_
          rw [btP_no (no_ok (by decide +kernel))]
          rintro e w4 ⟨rfl, hb4⟩
          have HB4 := Lib.hid (nx HB3.out hb4)
          clear HL3 HX3 HB3 hb4 c0 c1 c2
          go_wp2_with fail
          exact ⟨⟨11, rfl, by omega, HB4⟩, by simp [intOf]⟩
      · subst hk11
        as_aux_lemma =>
          obtain ⟨y0, y1⟩ : W.cell? ⟨g, 6, none⟩ = some _ ∧ W.frozen? ⟨g, 6, none⟩ = false := ⟨cell_of HS0.out 6, frozen_of HS0.out 6⟩
          have HL := Lib.hid (show LS (W.setCell ⟨g, 6, none⟩ (.int .i64 (-1))) (some ⟨g, 0, none⟩) 1 1 [(⟨3, 4, 0, ⟨#[97]⟩, ⟨#[98]⟩, 5, -1, ⟨#[]⟩, []⟩ : Spn)] from LS.one (show BSp _ g (⟨3, 4, 0, ⟨#[97]⟩, ⟨#[98]⟩, 5, -1, ⟨#[]⟩, []⟩ : Spn) (.slice none 0 0) from heap_set HS0.out 6 _) (AS.none0 _))
          have HX := Lib.hid ((Below.heap_setCell W ⟨g, 6, none⟩ (.int .i64 (-1)) q (Ne.symm hgq)).trans HX0.out)
          have HB := Lib.hid (HB1.out.setCell (p := ⟨g, 6, none⟩) hgw (.int .i64 (-1)))
          go_upto_region 47 with (fail)
          obtain ⟨W2, hW2⟩ : ∃ W2, W2 = W.setCell ⟨g, 6, none⟩ (.int .i64 (-1)) := ⟨_, rfl⟩
          change Code.wp _ _ _ _ (W.setCell ⟨g, 6, none⟩ (.int .i64 (-1)))
          rw [← hW2] at HL HX HB ⊢
          clear hW2 y0 HS0 HX0 HB1 c0 c1 c2
          obtain ⟨c0, c1, c2⟩ := bat_block HX.out
          go_wp2_with fail
          refine (batBytes_any (b := ⟨1, 2, [(⟨3, 4, 0, ⟨#[97]⟩, ⟨#[98]⟩, 5, -1, ⟨#[]⟩, []⟩ : Spn)]⟩) HL.out).mono ?_
          rw [btP_no (no_ok (by decide +kernel))]
          intro e w3 hh
          obtain ⟨A1, n1, k1, rfl, hB, hb3⟩ := hh.open (by intro x hx; cases hx) (by simp)
          obtain rfl : n1 = 0 := hB.len
          have HL3 := Lib.hid (HL.out.below hb3)
          have HX3 := Lib.hid (blk_bel HX.out hb3)
          have HB3 := Lib.hid (nx HB.out hb3)
          clear HL HX HB hB hh hb3 c0 c1 c2
          obtain ⟨c0, c1, c2⟩ := bat_block HX3.out
          go_wp2_with fail
          refine (batCheck_any (b := ⟨1, 2, [(⟨3, 4, 0, ⟨#[97]⟩, ⟨#[98]⟩, 5, -1, ⟨#[]⟩, []⟩ : Spn)]⟩) HL3.out).mono ?_
          rw [btP_no (no_ok (by decide +kernel))]
          rintro e w4 ⟨rfl, hb4⟩
          have HB4 := Lib.hid (nx HB3.out hb4)
          clear HL3 HX3 HB3 hb4 c0 c1 c2
          go_wp2_with fail
          exact ⟨⟨12, rfl, by omega, HB4⟩, by simp [intOf]⟩
      · subst hk12
        as_aux_lemma =>
          obtain ⟨y0, y1⟩ : W.cell? ⟨g, 5, none⟩ = some _ ∧ W.frozen? ⟨g, 5, none⟩ = false := ⟨cell_of HS0.out 5, frozen_of HS0.out 5⟩
          have HL := Lib.hid (show LS (W.setCell ⟨g, 5, none⟩ (.int .i64 9007199254740991)) (some ⟨g, 0, none⟩) 1 1 [(⟨3, 4, 0, ⟨#[97]⟩, ⟨#[98]⟩, 9007199254740991, 6, ⟨#[]⟩, []⟩ : Spn)] from LS.one (show BSp _ g (⟨3, 4, 0, ⟨#[97]⟩, ⟨#[98]⟩, 9007199254740991, 6, ⟨#[]⟩, []⟩ : Spn) (.slice none 0 0) from heap_set HS0.out 5 _) (AS.none0 _))
          have HX := Lib.hid ((Below.heap_setCell W ⟨g, 5, none⟩ (.int .i64 9007199254740991) q (Ne.symm hgq)).trans HX0.out)
          have HB := Lib.hid (HB1.out.setCell (p := ⟨g, 5, none⟩) hgw (.int .i64 9007199254740991))
          go_upto_region 47 with (fail)
          obtain ⟨W2, hW2⟩ : ∃ W2, W2 = W.setCell ⟨g, 5, none⟩ (.int .i64 9007199254740991) := ⟨_, rfl⟩
          change Code.wp _ _ _ _ (W.setCell ⟨g, 5, none⟩ (.int .i64 9007199254740991))
          rw [← hW2] at HL HX HB ⊢
          clear hW2 y0 HS0 HX0 HB1 c0 c1 c2
          obtain ⟨c0, c1, c2⟩ := bat_block HX.out
          go_wp2_with fail
          refine (batBytes_any (b := ⟨1, 2, [(⟨3, 4, 0, ⟨#[97]⟩, ⟨#[98]⟩, 9007199254740991, 6, ⟨#[]⟩, []⟩ : Spn)]⟩) HL.out).mono ?_
          rw [btP_no (no_ok (by decide +kernel))]
          intro e w3 hh
          obtain ⟨A1, n1, k1, rfl, hB, hb3⟩ := hh.open (by intro x hx; cases hx) (by simp)
          obtain rfl : n1 = 0 := hB.len
          have HL3 := Lib.hid (HL.out.below hb3)
          have HX3 := Lib.hid (blk_bel HX.out hb3)
          have HB3 := Lib.hid (nx HB.out hb3)
          clear HL HX HB hB hh hb3 c0 c1 c2
          obtain ⟨c0, c1, c2⟩ := bat_block HX3.out
          go_wp2_with fail
          refine (batCheck_any (b := ⟨1, 2, [(⟨3, 4, 0, ⟨#[97]⟩, ⟨#[98]⟩, 9007199254740991, 6, ⟨#[]⟩, []⟩ : Spn)]⟩) HL3.out).mono ?_
          rw [btP_no (no_ok (by decide +kernel))]
          rintro e w4 ⟨rfl, hb4⟩
          have HB4 := Lib.hid (nx HB3.out hb4)
          clear HL3 HX3 HB3 hb4 c0 c1 c2
          go_wp2_with fail
          exact ⟨⟨13, rfl, by omega, HB4⟩, by simp [intOf]⟩
      · subst hk13
        as_aux_lemma =>
          obtain ⟨y0, y1⟩ : W.cell? ⟨g, 3, none⟩ = some _ ∧ W.frozen? ⟨g, 3, none⟩ = false := ⟨cell_of HS0.out 3, frozen_of HS0.out 3⟩
          have HL := Lib.hid (show LS (W.setCell ⟨g, 3, none⟩ (.string ⟨#[]⟩)) (some ⟨g, 0, none⟩) 1 1 [(⟨3, 4, 0, ⟨#[]⟩, ⟨#[98]⟩, 5, 6, ⟨#[]⟩, []⟩ : Spn)] from LS.one (show BSp _ g (⟨3, 4, 0, ⟨#[]⟩, ⟨#[98]⟩, 5, 6, ⟨#[]⟩, []⟩ : Spn) (.slice none 0 0) from heap_set HS0.out 3 _) (AS.none0 _))
          have HX := Lib.hid ((Below.heap_setCell W ⟨g, 3, none⟩ (.string ⟨#[]⟩) q (Ne.symm hgq)).trans HX0.out)
          have HB := Lib.hid (HB1.out.setCell (p := ⟨g, 3, none⟩) hgw (.string ⟨#[]⟩))
          go_upto_region 47 with (fail)
          obtain ⟨W2, hW2⟩ : ∃ W2, W2 = W.setCell ⟨g, 3, none⟩ (.string ⟨#[]⟩) := ⟨_, rfl⟩
          change Code.wp _ _ _ _ (W.setCell ⟨g, 3, none⟩ (.string ⟨#[]⟩))
          rw [← hW2] at HL HX HB ⊢
          clear hW2 y0 HS0 HX0 HB1 c0 c1 c2
          obtain ⟨c0, c1, c2⟩ := bat_block HX.out
          go_wp2_with fail
          refine (batBytes_any (b := ⟨1, 2, [(⟨3, 4, 0, ⟨#[]⟩, ⟨#[98]⟩, 5, 6, ⟨#[]⟩, []⟩ : Spn)]⟩) HL.out).mono ?_
          rw [btP_no (no_ok (by decide +kernel))]
          intro e w3 hh
          obtain ⟨A1, n1, k1, rfl, hB, hb3⟩ := hh.open (by intro x hx; cases hx) (by simp)
          obtain rfl : n1 = 0 := hB.len
          have HL3 := Lib.hid (HL.out.below hb3)
          have HX3 := Lib.hid (blk_bel HX.out hb3)
          have HB3 := Lib.hid (nx HB.out hb3)
          clear HL HX HB hB hh hb3 c0 c1 c2
          obtain ⟨c0, c1, c2⟩ := bat_block HX3.out
          go_wp2_with fail
          refine (batCheck_any (b := ⟨1, 2, [(⟨3, 4, 0, ⟨#[]⟩, ⟨#[98]⟩, 5, 6, ⟨#[]⟩, []⟩ : Spn)]⟩) HL3.out).mono ?_
          rw [btP_no (no_ok (by decide +kernel))]
          rintro e w4 ⟨rfl, hb4⟩
          have HB4 := Lib.hid (nx HB3.out hb4)
          clear HL3 HX3 HB3 hb4 c0 c1 c2
          go_wp2_with fail
          exact ⟨⟨14, rfl, by omega, HB4⟩, by simp [intOf]⟩
      · subst hk14
        as_aux_lemma =>
          obtain ⟨y0, y1⟩ : W.cell? ⟨g, 4, none⟩ = some _ ∧ W.frozen? ⟨g, 4, none⟩ = false := ⟨cell_of HS0.out 4, frozen_of HS0.out 4⟩
          have HL := Lib.hid (show LS (W.setCell ⟨g, 4, none⟩ (.string ⟨#[66]⟩)) (some ⟨g, 0, none⟩) 1 1 [(⟨3, 4, 0, ⟨#[97]⟩, ⟨#[66]⟩, 5, 6, ⟨#[]⟩, []⟩ : Spn)] from LS.one (show BSp _ g (⟨3, 4, 0, ⟨#[97]⟩, ⟨#[66]⟩, 5, 6, ⟨#[]⟩, []⟩ : Spn) (.slice none 0 0) from heap_set HS0.out 4 _) (AS.none0 _))
          have HX := Lib.hid ((Below.heap_setCell W ⟨g, 4, none⟩ (.string ⟨#[66]⟩) q (Ne.symm hgq)).trans HX0.out)
          have HB := Lib.hid (HB1.out.setCell (p := ⟨g, 4, none⟩) hgw (.string ⟨#[66]⟩))
          go_upto_region 47 with (fail)
          obtain ⟨W2, hW2⟩ : ∃ W2, W2 = W.setCell ⟨g, 4, none⟩ (.string ⟨#[66]⟩) := ⟨_, rfl⟩
          change Code.wp _ _ _ _ (W.setCell ⟨g, 4, none⟩ (.string ⟨#[66]⟩))
          rw [← hW2] at HL HX HB ⊢
          clear hW2 y0 HS0 HX0 HB1 c0 c1 c2
          obtain ⟨c0, c1, c2⟩ := bat_block HX.out
          go_wp2_with fail
          refine (batBytes_any (b := ⟨1, 2, [(⟨3, 4, 0, ⟨#[97]⟩, ⟨#[66]⟩, 5, 6, ⟨#[]⟩, []⟩ : Spn)]⟩) HL.out).mono ?_
          rw [btP_no (no_ok (by decide +kernel))]
          intro e w3 hh
          obtain ⟨A1, n1, k1, rfl, hB, hb3⟩ := hh.open (by intro x hx; cases hx) (by simp)
          obtain rfl : n1 = 0 := hB.len
          have HL3 := Lib.hid (HL.out.below hb3)
          have HX3 := Lib.hid (blk_bel HX.out hb3)
          have HB3 := Lib.hid (nx HB.out hb3)
          clear HL HX HB hB hh hb3 c0 c1 c2
          obtain ⟨c0, c1, c2⟩ := bat_block HX3.out
          go_wp2_with fail
          refine (batCheck_any (b := ⟨1, 2, [(⟨3, 4, 0, ⟨#[97]⟩, ⟨#[66]⟩, 5, 6, ⟨#[]⟩, []⟩ : Spn)]⟩) HL3.out).mono ?_
          rw [btP_no (no_ok (by decide +kernel))]
          rintro e w4 ⟨rfl, hb4⟩
          have HB4 := Lib.hid (nx HB3.out hb4)
          clear HL3 HX3 HB3 hb4 c0 c1 c2
          go_wp2_with fail
          exact ⟨⟨15, rfl, by omega, HB4⟩, by simp [intOf]⟩
      · subst hk15
        as_aux_lemma =>
          have R1 := Lib.hid (show ∀ w, Calls Try.prog 12 #[.string ⟨#[115]⟩, .int .i64 65] w fun e w' => e = .returned (.string (repB 115 65)) ∧ Below w.heap.size w w' from fun w => Try.strings_Repeat ⟨#[115]⟩ 65 w (by omega) (by decide))
          go_wp2_with fail
          refine (R1.out _).mono ?_
          rintro e wa ⟨rfl, hba⟩
          have hS1 := HS0.out.below hba
          have hX1 := blk_bel HX0.out hba
          have hB1 := nx HB1.out hba
          obtain ⟨y0, y1⟩ : wa.cell? ⟨g, 7, none⟩ = some _ ∧ wa.frozen? ⟨g, 7, none⟩ = false := ⟨cell_of hS1 7, frozen_of hS1 7⟩
          have HL := Lib.hid (show LS (wa.setCell ⟨g, 7, none⟩ (.string (repB 115 65))) (some ⟨g, 0, none⟩) 1 1 [(⟨3, 4, 0, ⟨#[97]⟩, ⟨#[98]⟩, 5, 6, repB 115 65, []⟩ : Spn)] from LS.one (show BSp _ g (⟨3, 4, 0, ⟨#[97]⟩, ⟨#[98]⟩, 5, 6, repB 115 65, []⟩ : Spn) (.slice none 0 0) from heap_set hS1 7 _) (AS.none0 _))
          have HX := Lib.hid ((Below.heap_setCell wa ⟨g, 7, none⟩ (.string (repB 115 65)) q (Ne.symm hgq)).trans hX1)
          have HB := Lib.hid (hB1.setCell (p := ⟨g, 7, none⟩) hgw (.string (repB 115 65)))
          go_upto_region 47 with (fail)
          obtain ⟨W2, hW2⟩ : ∃ W2, W2 = wa.setCell ⟨g, 7, none⟩ (.string (repB 115 65)) := ⟨_, rfl⟩
          change Code.wp _ _ _ _ (wa.setCell ⟨g, 7, none⟩ (.string (repB 115 65)))
          rw [← hW2] at HL HX HB ⊢
          clear hW2 y0 HS0 HX0 HB1 c0 c1 c2
          obtain ⟨c0, c1, c2⟩ := bat_block HX.out
          go_wp2_with fail
          refine (batBytes_any (b := ⟨1, 2, [(⟨3, 4, 0, ⟨#[97]⟩, ⟨#[98]⟩, 5, 6, repB 115 65, []⟩ : Spn)]⟩) HL.out).mono ?_
          rw [btP_no (no_ok (by decide +kernel))]
          intro e w3 hh
          obtain ⟨A1, n1, k1, rfl, hB, hb3⟩ := hh.open (by intro x hx; cases hx) (by simp)
          obtain rfl : n1 = 0 := hB.len
          have HL3 := Lib.hid (HL.out.below hb3)
          have HX3 := Lib.hid (blk_bel HX.out hb3)
          have HB3 := Lib.hid (nx HB.out hb3)
          clear HL HX HB hB hh hb3 c0 c1 c2
          obtain ⟨c0, c1, c2⟩ := bat_block HX3.out
          go_wp2_with fail
          refine (batCheck_any (b := ⟨1, 2, [(⟨3, 4, 0, ⟨#[97]⟩, ⟨#[98]⟩, 5, 6, repB 115 65, []⟩ : Spn)]⟩) HL3.out).mono ?_
          rw [btP_no (no_ok (by decide +kernel))]
          rintro e w4 ⟨rfl, hb4⟩
          have HB4 := Lib.hid (nx HB3.out hb4)
          clear HL3 HX3 HB3 hb4 c0 c1 c2
          go_wp2_with fail
          exact ⟨⟨16, rfl, by omega, HB4⟩, by simp [intOf]⟩
      · subst hk16
        as_aux_lemma =>
          have hS1 := HS0.out.below (bel1 W (.cells #[.string ⟨#[97]⟩, .int .i64 0, .int .u32 0, .int .i64 0, .int .i64 0, .string ⟨#[]⟩] 46))
          have hX1 := blk_bel HX0.out (bel1 W (.cells #[.string ⟨#[97]⟩, .int .i64 0, .int .u32 0, .int .i64 0, .int .i64 0, .string ⟨#[]⟩] 46))
          have hB1 := nx HB1.out (bel1 W (.cells #[.string ⟨#[97]⟩, .int .i64 0, .int .u32 0, .int .i64 0, .int .i64 0, .string ⟨#[]⟩] 46))
          have hNE := Lib.hid (show W.heap.size ≠ g by have := (Array.getElem?_eq_some_iff.1 HS0.out).1; omega)
          obtain ⟨y0, y1⟩ : (W.alloc (.cells #[.string ⟨#[97]⟩, .int .i64 0, .int .u32 0, .int .i64 0, .int .i64 0, .string ⟨#[]⟩] 46)).cell? ⟨g, 8, none⟩ = some _ ∧ (W.alloc (.cells #[.string ⟨#[97]⟩, .int .i64 0, .int .u32 0, .int .i64 0, .int .i64 0, .string ⟨#[]⟩] 46)).frozen? ⟨g, 8, none⟩ = false := ⟨cell_of hS1 8, frozen_of hS1 8⟩
          have HL := Lib.hid (show LS ((W.alloc (.cells #[.string ⟨#[97]⟩, .int .i64 0, .int .u32 0, .int .i64 0, .int .i64 0, .string ⟨#[]⟩] 46)).setCell ⟨g, 8, none⟩ (.slice (some ⟨W.heap.size, 0, none⟩) 1 1)) (some ⟨g, 0, none⟩) 1 1 [(⟨3, 4, 0, ⟨#[97]⟩, ⟨#[98]⟩, 5, 6, ⟨#[]⟩, [atA]⟩ : Spn)] from LS.one (show BSp _ g (⟨3, 4, 0, ⟨#[97]⟩, ⟨#[98]⟩, 5, 6, ⟨#[]⟩, [atA]⟩ : Spn) (.slice (some ⟨W.heap.size, 0, none⟩) 1 1) from heap_set hS1 8 (.slice (some ⟨W.heap.size, 0, none⟩) 1 1)) (AS.one (a := atA) (m := (0, 0)) ((Below.heap_setCell (W.alloc (.cells #[.string ⟨#[97]⟩, .int .i64 0, .int .u32 0, .int .i64 0, .int .i64 0, .string ⟨#[]⟩] 46)) ⟨g, 8, none⟩ (.slice (some ⟨W.heap.size, 0, none⟩) 1 1) W.heap.size hNE.out).trans (heap_alloc_new W _)) (by decide)))
          have HX := Lib.hid ((Below.heap_setCell (W.alloc (.cells #[.string ⟨#[97]⟩, .int .i64 0, .int .u32 0, .int .i64 0, .int .i64 0, .string ⟨#[]⟩] 46)) ⟨g, 8, none⟩ (.slice (some ⟨W.heap.size, 0, none⟩) 1 1) q (Ne.symm hgq)).trans hX1)
          have HB := Lib.hid (hB1.setCell (p := ⟨g, 8, none⟩) hgw (.slice (some ⟨W.heap.size, 0, none⟩) 1 1))
          go_upto_region 47 with (first | (refine wpList_bd rfl _ _ rfl #[(0, .string ⟨#[97]⟩)] _ (by simp [Act.eval]) (build_attrA ⟨#[97]⟩ W) ?_) | (refine wpList_bs rfl _ _ _ rfl #[(0, .agg #[.string ⟨#[97]⟩, .int .i64 0, .int .u32 0, .int .i64 0, .int .i64 0, .string ⟨#[]⟩])] _ (by simp [Act.eval, Act.put]) (bslice_attrA ⟨#[97]⟩ W) ?_))
          obtain ⟨W2, hW2⟩ : ∃ W2, W2 = (W.alloc (.cells #[.string ⟨#[97]⟩, .int .i64 0, .int .u32 0, .int .i64 0, .int .i64 0, .string ⟨#[]⟩] 46)).setCell ⟨g, 8, none⟩ (.slice (some ⟨W.heap.size, 0, none⟩) 1 1) := ⟨_, rfl⟩
          change Code.wp _ _ _ _ ((W.alloc (.cells #[.string ⟨#[97]⟩, .int .i64 0, .int .u32 0, .int .i64 0, .int .i64 0, .string ⟨#[]⟩] 46)).setCell ⟨g, 8, none⟩ (.slice (some ⟨W.heap.size, 0, none⟩) 1 1))
          rw [← hW2] at HL HX HB ⊢
          clear hW2 y0 HS0 HX0 HB1 c0 c1 c2
          obtain ⟨c0, c1, c2⟩ := bat_block HX.out
          go_wp2_with fail
          refine (batBytes_any (b := ⟨1, 2, [(⟨3, 4, 0, ⟨#[97]⟩, ⟨#[98]⟩, 5, 6, ⟨#[]⟩, [atA]⟩ : Spn)]⟩) HL.out).mono ?_
          rw [btP_no (no_ok (by decide +kernel))]
          intro e w3 hh
          obtain ⟨A1, n1, k1, rfl, hB, hb3⟩ := hh.open (by intro x hx; cases hx) (by simp)
          obtain rfl : n1 = 0 := hB.len
          have HL3 := Lib.hid (HL.out.below hb3)
          have HX3 := Lib.hid (blk_bel HX.out hb3)
          have HB3 := Lib.hid (nx HB.out hb3)
          clear HL HX HB hB hh hb3 c0 c1 c2
          obtain ⟨c0, c1, c2⟩ := bat_block HX3.out
          go_wp2_with fail
          refine (batCheck_any (b := ⟨1, 2, [(⟨3, 4, 0, ⟨#[97]⟩, ⟨#[98]⟩, 5, 6, ⟨#[]⟩, [atA]⟩ : Spn)]⟩) HL3.out).mono ?_
          rw [btP_no (no_ok (by decide +kernel))]
          rintro e w4 ⟨rfl, hb4⟩
          have HB4 := Lib.hid (nx HB3.out hb4)
          clear HL3 HX3 HB3 hb4 c0 c1 c2
          go_wp2_with fail
          exact ⟨⟨17, rfl, by omega, HB4⟩, by simp [intOf]⟩
      · subst hk17
        as_aux_lemma =>
          obtain ⟨y0, y1⟩ : W.cell? ⟨g, 0, none⟩ = some _ ∧ W.frozen? ⟨g, 0, none⟩ = false := ⟨cell_of HS0.out 0, frozen_of HS0.out 0⟩
          have HL := Lib.hid (show LS (W.setCell ⟨g, 0, none⟩ (.int .i64 9007199254740992)) (some ⟨g, 0, none⟩) 1 1 [(⟨9007199254740992, 4, 0, ⟨#[97]⟩, ⟨#[98]⟩, 5, 6, ⟨#[]⟩, []⟩ : Spn)] from LS.one (show BSp _ g (⟨9007199254740992, 4, 0, ⟨#[97]⟩, ⟨#[98]⟩, 5, 6, ⟨#[]⟩, []⟩ : Spn) (.slice none 0 0) from heap_set HS0.out 0 _) (AS.none0 _))
          have HX := Lib.hid ((Below.heap_setCell W ⟨g, 0, none⟩ (.int .i64 9007199254740992) q (Ne.symm hgq)).trans HX0.out)
          have HB := Lib.hid (HB1.out.setCell (p := ⟨g, 0, none⟩) hgw (.int .i64 9007199254740992))
          go_upto_region 47 with (fail)
          obtain ⟨W2, hW2⟩ : ∃ W2, W2 = W.setCell ⟨g, 0, none⟩ (.int .i64 9007199254740992) := ⟨_, rfl⟩
          change Code.wp _ _ _ _ (W.setCell ⟨g, 0, none⟩ (.int .i64 9007199254740992))
          rw [← hW2] at HL HX HB ⊢
          clear hW2 y0 HS0 HX0 HB1 c0 c1 c2
          obtain ⟨c0, c1, c2⟩ := bat_block HX.out
          go_wp2_with fail
          refine (batBytes_any (b := ⟨1, 2, [(⟨9007199254740992, 4, 0, ⟨#[97]⟩, ⟨#[98]⟩, 5, 6, ⟨#[]⟩, []⟩ : Spn)]⟩) HL.out).mono ?_
          rw [btP_no (no_ok (by decide +kernel))]
          intro e w3 hh
          obtain ⟨A1, n1, k1, rfl, hB, hb3⟩ := hh.open (by intro x hx; cases hx) (by simp)
          obtain rfl : n1 = 0 := hB.len
          have HL3 := Lib.hid (HL.out.below hb3)
          have HX3 := Lib.hid (blk_bel HX.out hb3)
          have HB3 := Lib.hid (nx HB.out hb3)
          clear HL HX HB hB hh hb3 c0 c1 c2
          obtain ⟨c0, c1, c2⟩ := bat_block HX3.out
          go_wp2_with fail
          refine (batCheck_any (b := ⟨1, 2, [(⟨9007199254740992, 4, 0, ⟨#[97]⟩, ⟨#[98]⟩, 5, 6, ⟨#[]⟩, []⟩ : Spn)]⟩) HL3.out).mono ?_
          rw [btP_no (no_ok (by decide +kernel))]
          rintro e w4 ⟨rfl, hb4⟩
          have HB4 := Lib.hid (nx HB3.out hb4)
          clear HL3 HX3 HB3 hb4 c0 c1 c2
          go_wp2_with fail
          exact ⟨⟨18, rfl, by omega, HB4⟩, by simp [intOf]⟩
      · subst hk18
        as_aux_lemma =>
          have hS1 := show BSp (W.setCell ⟨g, 6, none⟩ (.int .i64 4611686018427387904)) g (⟨3, 4, 0, ⟨#[97]⟩, ⟨#[98]⟩, 5, 4611686018427387904, ⟨#[]⟩, []⟩ : Spn) (.slice none 0 0) from heap_set HS0.out 6 _
          have hX1 := (Below.heap_setCell W ⟨g, 6, none⟩ (.int .i64 4611686018427387904) q (Ne.symm hgq)).trans HX0.out
          have hB1 := HB1.out.setCell (p := ⟨g, 6, none⟩) hgw (.int .i64 4611686018427387904)
          obtain ⟨y2, y3⟩ : W.cell? ⟨g, 6, none⟩ = some _ ∧ W.frozen? ⟨g, 6, none⟩ = false := ⟨cell_of HS0.out 6, frozen_of HS0.out 6⟩
          go_upto_region 46 with (fail)
          obtain ⟨W1, hW1⟩ : ∃ W1, W1 = W.setCell ⟨g, 6, none⟩ (.int .i64 4611686018427387904) := ⟨_, rfl⟩
          rw [← hW1] at hS1 hX1 hB1 ⊢
          clear hW1 y2 y3
          obtain ⟨y0, y1⟩ : W1.cell? ⟨g, 5, none⟩ = some _ ∧ W1.frozen? ⟨g, 5, none⟩ = false := ⟨cell_of hS1 5, frozen_of hS1 5⟩
          have HL := Lib.hid (show LS (W1.setCell ⟨g, 5, none⟩ (.int .i64 4611686018427387904)) (some ⟨g, 0, none⟩) 1 1 [(⟨3, 4, 0, ⟨#[97]⟩, ⟨#[98]⟩, 4611686018427387904, 4611686018427387904, ⟨#[]⟩, []⟩ : Spn)] from LS.one (show BSp _ g (⟨3, 4, 0, ⟨#[97]⟩, ⟨#[98]⟩, 4611686018427387904, 4611686018427387904, ⟨#[]⟩, []⟩ : Spn) (.slice none 0 0) from heap_set hS1 5 _) (AS.none0 _))
          have HX := Lib.hid ((Below.heap_setCell W1 ⟨g, 5, none⟩ (.int .i64 4611686018427387904) q (Ne.symm hgq)).trans hX1)
          have HB := Lib.hid (hB1.setCell (p := ⟨g, 5, none⟩) hgw (.int .i64 4611686018427387904))
          go_upto_region 47 with (fail)
          obtain ⟨W2, hW2⟩ : ∃ W2, W2 = W1.setCell ⟨g, 5, none⟩ (.int .i64 4611686018427387904) := ⟨_, rfl⟩
          change Code.wp _ _ _ _ (W1.setCell ⟨g, 5, none⟩ (.int .i64 4611686018427387904))
          rw [← hW2] at HL HX HB ⊢
          clear hW2 y0 HS0 HX0 HB1 c0 c1 c2
          obtain ⟨c0, c1, c2⟩ := bat_block HX.out
          go_wp2_with fail
          refine (batBytes_any (b := ⟨1, 2, [(⟨3, 4, 0, ⟨#[97]⟩, ⟨#[98]⟩, 4611686018427387904, 4611686018427387904, ⟨#[]⟩, []⟩ : Spn)]⟩) HL.out).mono ?_
          rw [btP_no (no_ok (by decide +kernel))]
          intro e w3 hh
          obtain ⟨A1, n1, k1, rfl, hB, hb3⟩ := hh.open (by intro x hx; cases hx) (by simp)
          obtain rfl : n1 = 0 := hB.len
          have HL3 := Lib.hid (HL.out.below hb3)
          have HX3 := Lib.hid (blk_bel HX.out hb3)
          have HB3 := Lib.hid (nx HB.out hb3)
          clear HL HX HB hB hh hb3 c0 c1 c2
          obtain ⟨c0, c1, c2⟩ := bat_block HX3.out
          go_wp2_with fail
          refine (batCheck_any (b := ⟨1, 2, [(⟨3, 4, 0, ⟨#[97]⟩, ⟨#[98]⟩, 4611686018427387904, 4611686018427387904, ⟨#[]⟩, []⟩ : Spn)]⟩) HL3.out).mono ?_
          rw [btP_no (no_ok (by decide +kernel))]
          rintro e w4 ⟨rfl, hb4⟩
          have HB4 := Lib.hid (nx HB3.out hb4)
          clear HL3 HX3 HB3 hb4 c0 c1 c2
          go_wp2_with fail
          exact ⟨⟨19, rfl, by omega, HB4⟩, by simp [intOf]⟩
      · subst hk19
        as_aux_lemma =>
          obtain ⟨y0, y1⟩ : W.cell? ⟨g, 1, none⟩ = some _ ∧ W.frozen? ⟨g, 1, none⟩ = false := ⟨cell_of HS0.out 1, frozen_of HS0.out 1⟩
          have HL := Lib.hid (show LS (W.setCell ⟨g, 1, none⟩ (.int .i64 1152921504606846976)) (some ⟨g, 0, none⟩) 1 1 [(⟨3, 1152921504606846976, 0, ⟨#[97]⟩, ⟨#[98]⟩, 5, 6, ⟨#[]⟩, []⟩ : Spn)] from LS.one (show BSp _ g (⟨3, 1152921504606846976, 0, ⟨#[97]⟩, ⟨#[98]⟩, 5, 6, ⟨#[]⟩, []⟩ : Spn) (.slice none 0 0) from heap_set HS0.out 1 _) (AS.none0 _))
          have HX := Lib.hid ((Below.heap_setCell W ⟨g, 1, none⟩ (.int .i64 1152921504606846976) q (Ne.symm hgq)).trans HX0.out)
          have HB := Lib.hid (HB1.out.setCell (p := ⟨g, 1, none⟩) hgw (.int .i64 1152921504606846976))
          go_upto_region 47 with (fail)
          obtain ⟨W2, hW2⟩ : ∃ W2, W2 = W.setCell ⟨g, 1, none⟩ (.int .i64 1152921504606846976) := ⟨_, rfl⟩
          change Code.wp _ _ _ _ (W.setCell ⟨g, 1, none⟩ (.int .i64 1152921504606846976))
          rw [← hW2] at HL HX HB ⊢
          clear hW2 y0 HS0 HX0 HB1 c0 c1 c2
          obtain ⟨c0, c1, c2⟩ := bat_block HX.out
          go_wp2_with fail
          refine (batBytes_any (b := ⟨1, 2, [(⟨3, 1152921504606846976, 0, ⟨#[97]⟩, ⟨#[98]⟩, 5, 6, ⟨#[]⟩, []⟩ : Spn)]⟩) HL.out).mono ?_
          rw [btP_no (no_ok (by decide +kernel))]
          intro e w3 hh
          obtain ⟨A1, n1, k1, rfl, hB, hb3⟩ := hh.open (by intro x hx; cases hx) (by simp)
          obtain rfl : n1 = 0 := hB.len
          have HL3 := Lib.hid (HL.out.below hb3)
          have HX3 := Lib.hid (blk_bel HX.out hb3)
          have HB3 := Lib.hid (nx HB.out hb3)
          clear HL HX HB hB hh hb3 c0 c1 c2
          obtain ⟨c0, c1, c2⟩ := bat_block HX3.out
          go_wp2_with fail
          refine (batCheck_any (b := ⟨1, 2, [(⟨3, 1152921504606846976, 0, ⟨#[97]⟩, ⟨#[98]⟩, 5, 6, ⟨#[]⟩, []⟩ : Spn)]⟩) HL3.out).mono ?_
          rw [btP_no (no_ok (by decide +kernel))]
          rintro e w4 ⟨rfl, hb4⟩
          have HB4 := Lib.hid (nx HB3.out hb4)
          clear HL3 HX3 HB3 hb4 c0 c1 c2
          go_wp2_with fail
          exact ⟨⟨20, rfl, by omega, HB4⟩, by simp [intOf]⟩
    · obtain rfl : j = 20 := by omega
      go_wp2_with fail
      as_aux_lemma =>
      refine (chapter2_any _).mono ?_
      rintro e w1 ⟨g, rfl, hS, hg, hb1⟩
      have hb2 := nx HB0.out hb1
      have hgw : w.heap.size ≤ g := by have := HB0.out.size; omega
      obtain ⟨q, hqq⟩ : ∃ q, q = w1.heap.size := ⟨_, rfl⟩
      have hqw : w.heap.size ≤ q := by have := hb2.size; omega
      have hgq : g ≠ q := by have := (Array.getElem?_eq_some_iff.1 hS).1; omega
      have HX0 := Lib.hid (heap_alloc_new w1 (.cells #[.int .i64 1, .int .i64 2, .slice (some ⟨g, 0, none⟩) 1 1] 24))
      have HS0 := Lib.hid (hS.below (bel1 w1 (.cells #[.int .i64 1, .int .i64 2, .slice (some ⟨g, 0, none⟩) 1 1] 24)))
      have HB1 := Lib.hid (nx hb2 (bel1 w1 (.cells #[.int .i64 1, .int .i64 2, .slice (some ⟨g, 0, none⟩) 1 1] 24)))
      clear hb2 hb1 hS hg
      have h0a : (⟨g, 0, none⟩ : Addr).add 0 = ⟨g, 0, none⟩ := addr_add _ _ _
      rw [← hqq] at HX0
      go_upto_region 51 with (fail)
      obtain ⟨W, hW⟩ : ∃ W, W = w1.alloc (.cells #[.int .i64 1, .int .i64 2, .slice (some ⟨g, 0, none⟩) 1 1] 24) := ⟨_, rfl⟩
      (try rw [← hqq])
      rw [← hW] at HS0 HX0 HB1 ⊢
      clear hW hqq
      have y0 : W.cell? ⟨q, 0, none⟩ = some _ ∧ W.frozen? ⟨q, 0, none⟩ = false := ⟨cell_of HX0.out 0, frozen_of HX0.out 0⟩
      obtain ⟨y0, y1⟩ := y0
      go_upto_region 52 with (fail)
      have HX1 := Lib.hid (heap_set HX0.out 0 (.int .i64 16))
      have HS1 := Lib.hid (show BSp (W.setCell ⟨q, 0, none⟩ (.int .i64 16)) g chS (.slice none 0 0) from (Below.heap_setCell W ⟨q, 0, none⟩ (.int .i64 16) g hgq).trans HS0.out)
      have HB2 := Lib.hid (HB1.out.setCell (p := ⟨q, 0, none⟩) hqw (.int .i64 16))
      obtain ⟨W1, hW⟩ : ∃ W1, W1 = W.setCell ⟨q, 0, none⟩ (.int .i64 16) := ⟨_, rfl⟩
      rw [← hW] at HS1 HX1 HB2 ⊢
      clear hW y0 y1 HS0 HX0 HB1
      have y0 : W1.cell? ⟨q, 1, none⟩ = some _ ∧ W1.frozen? ⟨q, 1, none⟩ = false := ⟨cell_of HX1.out 1, frozen_of HX1.out 1⟩
      obtain ⟨y0, y1⟩ := y0
      go_upto_region 53 with (fail)
      have HX2 := Lib.hid (heap_set HX1.out 1 (.int .i64 9007199254740991))
      have HS2 := Lib.hid (show BSp (W1.setCell ⟨q, 1, none⟩ (.int .i64 9007199254740991)) g chS (.slice none 0 0) from (Below.heap_setCell W1 ⟨q, 1, none⟩ (.int .i64 9007199254740991) g hgq).trans HS1.out)
      have HB3 := Lib.hid (HB2.out.setCell (p := ⟨q, 1, none⟩) hqw (.int .i64 9007199254740991))
      obtain ⟨W2, hW⟩ : ∃ W2, W2 = W1.setCell ⟨q, 1, none⟩ (.int .i64 9007199254740991) := ⟨_, rfl⟩
      rw [← hW] at HS2 HX2 HB3 ⊢
      clear hW y0 y1 HS1 HX1 HB2
      have HX2' := Lib.hid (show W2.heap[q]? = some (.cells #[.int .i64 16, .int .i64 9007199254740991, .slice (some ⟨g, 0, none⟩) 1 1] 24 (0, 0)) from HX2.out)
      clear HX2
      have c2 := cell_of HX2'.out 2
      simp at c2
      obtain ⟨x0, x1, x2, x3, x4, x5, x6, x7, x8⟩ := HS2.out.cells
      go_upto_region 54 with (fail)
      have HS7 := Lib.hid (BSp.new W2 chS (.slice none 0 0))
      have hX3 := blk_bel HX2'.out (bel1 W2 (.cells #[.int .i64 chS.tr, .int .i64 chS.id, .int .i64 chS.pa, .string chS.sv, .string chS.op, .int .i64 chS.st, .int .i64 chS.ln, .string chS.sj, .slice none 0 0] 32))
      have hB3 := nx HB3.out (bel1 W2 (.cells #[.int .i64 chS.tr, .int .i64 chS.id, .int .i64 chS.pa, .string chS.sv, .string chS.op, .int .i64 chS.st, .int .i64 chS.ln, .string chS.sj, .slice none 0 0] 32))
      obtain ⟨q7, hq7⟩ : ∃ q7, q7 = W2.heap.size := ⟨_, rfl⟩
      have hq7w : w.heap.size ≤ q7 := by have := HB3.out.size; omega
      have hqq7 : q ≠ q7 := by have := (Array.getElem?_eq_some_iff.1 HX2'.out).1; omega
      rw [← hq7] at HS7 ⊢
      change Code.wp _ _ _ _ (W2.alloc (.cells #[.int .i64 chS.tr, .int .i64 chS.id, .int .i64 chS.pa, .string chS.sv, .string chS.op, .int .i64 chS.st, .int .i64 chS.ln, .string chS.sj, .slice none 0 0] 32))
      obtain ⟨W3, hW⟩ : ∃ W3, W3 = W2.alloc (.cells #[.int .i64 chS.tr, .int .i64 chS.id, .int .i64 chS.pa, .string chS.sv, .string chS.op, .int .i64 chS.st, .int .i64 chS.ln, .string chS.sj, .slice none 0 0] 32) := ⟨_, rfl⟩
      rw [← hW] at HS7 hX3 hB3 ⊢
      clear hW hq7 x0 x1 x2 x3 x4 x5 x6 x7 x8 c2 HS2 HX2' HB3
      have R1 := Lib.hid (show ∀ w, Calls Try.prog 12 #[.string ⟨#[115]⟩, .int .i64 64] w fun e w' => e = .returned (.string (repB 115 64)) ∧ Below w.heap.size w w' from fun w => Try.strings_Repeat ⟨#[115]⟩ 64 w (by omega) (by decide))
      have R2 := Lib.hid (show ∀ w, Calls Try.prog 12 #[.string ⟨#[115]⟩, .int .i64 24] w fun e w' => e = .returned (.string (repB 115 24)) ∧ Below w.heap.size w w' from fun w => Try.strings_Repeat ⟨#[115]⟩ 24 w (by omega) (by decide))
      obtain ⟨rv, hrv⟩ : ∃ r, r = repB 118 64 := ⟨_, rfl⟩
      have HRV := Lib.hid hrv
      have R3 := Lib.hid (show ∀ w, Calls Try.prog 12 #[.string ⟨#[118]⟩, .int .i64 64] w fun e w' => e = .returned (.string rv) ∧ Below w.heap.size w w' from fun w => by rw [hrv]; exact Try.strings_Repeat ⟨#[118]⟩ 64 w (by omega) (by decide))
      clear hrv
      go_wp2_with fail
      as_aux_lemma =>
      refine (R1.out _).mono ?_
      rintro e w4 ⟨rfl, hb4⟩
      have hS4 := HS7.out.below hb4
      have hX4 := blk_bel hX3 hb4
      have hB4 := nx hB3 hb4
      clear HS7 hX3 hB3 hb4 R1
      have y0 : w4.cell? ⟨q7, 7, none⟩ = some _ ∧ w4.frozen? ⟨q7, 7, none⟩ = false := ⟨cell_of hS4 7, frozen_of hS4 7⟩
      obtain ⟨y0, y1⟩ := y0
      go_upto_region 55 with (fail)
      have HS5 := Lib.hid (show BSp (w4.setCell ⟨q7, 7, none⟩ (.string (repB 115 64))) q7 ⟨3, 4, 0, ⟨#[97]⟩, ⟨#[98]⟩, 5, 6, repB 115 64, []⟩ (.slice none 0 0) from heap_set hS4 7 _)
      have HX5 := Lib.hid ((Below.heap_setCell w4 ⟨q7, 7, none⟩ (.string (repB 115 64)) q hqq7).trans hX4)
      have HB5 := Lib.hid (hB4.setCell (p := ⟨q7, 7, none⟩) hq7w (.string (repB 115 64)))
      obtain ⟨W5, hW⟩ : ∃ W, W = w4.setCell ⟨q7, 7, none⟩ (.string (repB 115 64)) := ⟨_, rfl⟩
      rw [← hW] at HS5 HX5 HB5 ⊢
      clear hW y0 y1 hS4 hX4 hB4
      have y0 : W5.cell? ⟨q7, 6, none⟩ = some _ ∧ W5.frozen? ⟨q7, 6, none⟩ = false := ⟨cell_of HS5.out 6, frozen_of HS5.out 6⟩
      obtain ⟨y0, y1⟩ := y0
      go_upto_region 56 with (fail)
      have HS6 := Lib.hid (show BSp (W5.setCell ⟨q7, 6, none⟩ (.int .i64 9007199254740986)) q7 ⟨3, 4, 0, ⟨#[97]⟩, ⟨#[98]⟩, 5, 9007199254740986, repB 115 64, []⟩ (.slice none 0 0) from heap_set HS5.out 6 _)
      have HX6 := Lib.hid ((Below.heap_setCell W5 ⟨q7, 6, none⟩ (.int .i64 9007199254740986) q hqq7).trans HX5.out)
      have HB6 := Lib.hid (HB5.out.setCell (p := ⟨q7, 6, none⟩) hq7w (.int .i64 9007199254740986))
      obtain ⟨W6, hW⟩ : ∃ W, W = W5.setCell ⟨q7, 6, none⟩ (.int .i64 9007199254740986) := ⟨_, rfl⟩
      rw [← hW] at HS6 HX6 HB6 ⊢
      clear hW y0 y1 HS5 HX5 HB5
      go_wp2_with fail
      as_aux_lemma =>
      refine (R2.out _).mono ?_
      rintro e w7 ⟨rfl, hb7⟩
      have hS7 := HS6.out.below hb7
      have hX7 := blk_bel HX6.out hb7
      have hB7 := nx HB6.out hb7
      clear HS6 HX6 HB6 hb7 R2
      have y0 : w7.cell? ⟨q7, 3, none⟩ = some _ ∧ w7.frozen? ⟨q7, 3, none⟩ = false := ⟨cell_of hS7 3, frozen_of hS7 3⟩
      obtain ⟨y0, y1⟩ := y0
      go_upto_region 57 with (fail)
      have hS8 : BSp (w7.setCell ⟨q7, 3, none⟩ (.string (repB 115 24))) q7 (fulS 0) (.slice none 0 0) := heap_set hS7 3 _
      have hX8 := (Below.heap_setCell w7 ⟨q7, 3, none⟩ (.string (repB 115 24)) q hqq7).trans hX7
      have hB8 := hB7.setCell (p := ⟨q7, 3, none⟩) hq7w (.string (repB 115 24))
      have HF := Lib.hid (show FulS w (w7.setCell ⟨q7, 3, none⟩ (.string (repB 115 24))) q q7 g 0 from ⟨_, hB8, hX8, hS8, World.ownsRow_nil _ _ _ _⟩)
      obtain ⟨W8, hW⟩ : ∃ W, W = w7.setCell ⟨q7, 3, none⟩ (.string (repB 115 24)) := ⟨_, rfl⟩
      rw [← hW] at HF ⊢
      clear hW y0 y1 hS7 hX7 hB7 hS8 hX8 hB8
      go_wp2_with fail
      go_loopw [8] (fun i wr => ∃ k : Nat, i = .int .i64 k ∧ k ≤ 8 ∧ Hid (FulS w wr q q7 g k)) (fun i _ => 8 - (intOf i).toNat)
      case atStart => exact ⟨0, rfl, Nat.zero_le _, HF⟩
      case round =>
        clear HF
        obtain ⟨k, rfl, hk, HF⟩ := hrel
        by_cases hkm : k < 8
        · as_aux_lemma =>
            obtain ⟨u, hF0⟩ := HF.out
            have HF0 := Lib.hid (hF0.below (bel0 wr).drew)
            clear hF0 HF
            have hki : (k : Int) < 8 := by omega
            have hHeld : wr.drew.cell? ⟨q7, 8, none⟩ = some u := cell_of HF0.out.s7 8
            obtain ⟨m, hm⟩ : ∃ m, m = 97 + k := ⟨_, rfl⟩
            have ekm : (97 : Int) + (k : Int) = (m : Int) := by omega
            have hm8 : m < 256 := by omega
            have ew64 : IntKind.i64.wrap (m : Int) = (m : Int) := by
              rw [IntKind.wrap_i64]
              omega
            have ew64 : IntKind.i64.wrap (m : Int) = (m : Int) := by
              rw [IntKind.wrap_i64]
              omega
            have HM := Lib.hid hm
            obtain ⟨nn, hnn⟩ : ∃ n, (⟨#[97, 116, 116, 114, 105, 98, 117, 116, 101, 45, 110, 117, 109, 98, 101, 114, 45]⟩ : ByteArray) ++ bs [m] = n := ⟨_, rfl⟩
            have HNN := Lib.hid (show nn = nmM m from hnn.symm)
            have hbs : 17 + (bs [m]).size ≤ 9223372036854775807 := by rw [bs_size]; simp
            have ew8 : IntKind.u8.wrap (m : Int) = (m : Int) := by
              rw [IntKind.wrap_u8]
              omega
            clear hm
            go_upto_region 60 with (fail)
            refine wp_region_g 15 (fun w' => w'.cell? ⟨q7, 8, none⟩ = some u) (by kernel_rfl) ?_
            generalize wr.drew = wd at HF0 hHeld ⊢
            refine' g_val (i := 0) (d := 152) (v := _) [0] rfl rfl (by kernel_rfl) (by kernel_rfl) (by kernel_rfl) (by kernel_rfl) (by kernel_rfl) (by kernel_rfl) (fun _ _ _ h => h) (by rfl) ?_ (by assumption) ?_
            rotate_left
            · (intro w hSw; (try dsimp only at hSw); go_simp; (try with_reducible rfl))
            (try simp only [Act.put, List.getElem_toArray, List.getElem_cons_succ, List.getElem_cons_zero, List.setIfInBounds_toArray, List.set_cons_zero, List.set_cons_succ])
            refine' g_val (i := 1) (d := 153) (v := _) [1] rfl rfl (by kernel_rfl) (by kernel_rfl) (by kernel_rfl) (by kernel_rfl) (by kernel_rfl) (by kernel_rfl) (fun _ _ _ h => h) (by rfl) ?_ (by assumption) ?_
            rotate_left
            · (intro w hSw; (try dsimp only at hSw); go_simp; (try with_reducible rfl))
            (try simp only [Act.put, List.getElem_toArray, List.getElem_cons_succ, List.getElem_cons_zero, List.setIfInBounds_toArray, List.set_cons_zero, List.set_cons_succ])
            refine' g_val (i := 2) (d := 154) (v := _) [2] rfl rfl (by kernel_rfl) (by kernel_rfl) (by kernel_rfl) (by kernel_rfl) (by kernel_rfl) (by kernel_rfl) (fun _ _ _ h => h) (by rfl) ?_ (by assumption) ?_
            rotate_left
            · (intro w hSw; (try dsimp only at hSw); go_simp; (try with_reducible rfl))
            (try simp only [Act.put, List.getElem_toArray, List.getElem_cons_succ, List.getElem_cons_zero, List.setIfInBounds_toArray, List.set_cons_zero, List.set_cons_succ])
            refine' g_val (i := 3) (d := 155) (v := .int .i64 (m : Int)) [3] rfl rfl (by kernel_rfl) (by kernel_rfl) (by kernel_rfl) (by kernel_rfl) (by kernel_rfl) (by kernel_rfl) (fun _ _ _ h => h) (by rfl) ?_ (by assumption) ?_
            · (intro w hSw; (try dsimp only at hSw); go_simp; (try with_reducible rfl))
            (try simp only [Act.put, List.getElem_toArray, List.getElem_cons_succ, List.getElem_cons_zero, List.setIfInBounds_toArray, List.set_cons_zero, List.set_cons_succ])
            refine' g_val (i := 4) (d := 156) (v := .int .u8 (m : Int)) [4] rfl rfl (by kernel_rfl) (by kernel_rfl) (by kernel_rfl) (by kernel_rfl) (by kernel_rfl) (by kernel_rfl) (fun _ _ _ h => h) (by rfl) ?_ (by assumption) ?_
            · (intro w hSw; (try dsimp only at hSw); go_simp; (try with_reducible rfl))
            (try simp only [Act.put, List.getElem_toArray, List.getElem_cons_succ, List.getElem_cons_zero, List.setIfInBounds_toArray, List.set_cons_zero, List.set_cons_succ])
            refine' g_val (i := 8) (d := 160) (v := _) [8] rfl rfl (by kernel_rfl) (by kernel_rfl) (by kernel_rfl) (by kernel_rfl) (by kernel_rfl) (by kernel_rfl) (fun _ _ _ h => h) (by rfl) ?_ (by assumption) ?_
            rotate_left
            · (intro w hSw; (try dsimp only at hSw); go_simp; (try with_reducible rfl))
            (try simp only [Act.put, List.getElem_toArray, List.getElem_cons_succ, List.getElem_cons_zero, List.setIfInBounds_toArray, List.set_cons_zero, List.set_cons_succ])
            refine wpAnyG_ready (rs := [5, 9]) (by kernel_rfl) (by simp) ?_
            refine (AllReadyG.cons rfl (fun K hK => ?_) (AllReadyG.cons rfl (fun K hK => ?_) AllReadyG.nil))
            ·
                go_simp
                go_wp2_with fail
                have hbA := bel1 wd (.cells #[.int .u8 (m : Int)] 5)
                have HYY := Lib.hid (show BS (wd.alloc (.cells #[.int .u8 (m : Int)] 5)) (some ⟨wd.heap.size, 0, none⟩) 1 1 [m] from BS.alloc wd [m] 5 (0, 0) (byte_conv hm8) (by simp))
                have HF1 := Lib.hid (HF0.out.below hbA)
                have hHe1 := blk_cell hbA hHeld
                clear hHeld HF0
                have hHeld := hHe1
                clear hHe1
                refine hK.out _ _ (fun _ => hHeld) ?_
                clear hK K
                (try simp only [Act.put, List.getElem_toArray, List.getElem_cons_succ, List.getElem_cons_zero, List.setIfInBounds_toArray, List.set_cons_zero, List.set_cons_succ])
                obtain ⟨W1, hW⟩ : ∃ W, W = wd.alloc (.cells #[.int .u8 (m : Int)] 5) := ⟨_, rfl⟩
                change wpAnyG _ _ _ _ _ _ _ _ _ (wd.alloc (.cells #[.int .u8 (m : Int)] 5))
                rw [← hW] at HYY HF1 hHeld ⊢
                clear hW hbA
                have HY1 := HYY
                clear HYY
                refine wpAnyG_ready (rs := [6, 9]) (by kernel_rfl) (by simp) ?_
                refine (AllReadyG.cons rfl (fun K hK => ?_) (AllReadyG.cons rfl (fun K hK => ?_) AllReadyG.nil))
                ·
                    have hcv : (convert 35 9 (.slice (some ⟨wd.heap.size, 0, none⟩) 1 1)).run Try.prog W1 = .ok (.string (bs [m])) W1 := conv_back (l := [m]) HY1.out
                    go_simp
                    go_wp2_with fail
                    refine hK.out _ _ (fun _ => hHeld) ?_
                    clear hK K
                    (try simp only [Act.put, List.getElem_toArray, List.getElem_cons_succ, List.getElem_cons_zero, List.setIfInBounds_toArray, List.set_cons_zero, List.set_cons_succ])
                    clear hcv HY1
                    refine' g_val (i := 7) (d := 159) (v := .string nn) [7] rfl rfl (by kernel_rfl) (by kernel_rfl) (by kernel_rfl) (by kernel_rfl) (by kernel_rfl) (by kernel_rfl) (fun _ _ _ h => h) (by rfl) ?_ (by assumption) ?_
                    · (intro w hSw; (try dsimp only at hSw); go_simp; (try with_reducible rfl))
                    (try simp only [Act.put, List.getElem_toArray, List.getElem_cons_succ, List.getElem_cons_zero, List.setIfInBounds_toArray, List.set_cons_zero, List.set_cons_succ])
                    refine wpAnyG_ready (rs := [9]) (by kernel_rfl) (by simp) ?_
                    refine (AllReadyG.cons rfl (fun K hK => ?_) AllReadyG.nil)
                    go_simp
                    go_at_call 12
                    refine (R3.out _).mono ?_
                    rintro e w2 ⟨rfl, hbe⟩
                    have HF2 := Lib.hid (HF1.out.below hbe)
                    have hHe2 := blk_cell hbe hHeld
                    clear hHeld HF1
                    have hHeld := hHe2
                    clear hHe2
                    clear hbe
                    go_wp2_with fail
                    refine hK.out _ _ (fun _ => hHeld) ?_
                    clear hK K
                    (try simp only [Act.put, List.getElem_toArray, List.getElem_cons_succ, List.getElem_cons_zero, List.setIfInBounds_toArray, List.set_cons_zero, List.set_cons_succ])
                    refine' g_val (i := 10) (d := 162) (v := _) [10] rfl rfl (by kernel_rfl) (by kernel_rfl) (by kernel_rfl) (by kernel_rfl) (by kernel_rfl) (by kernel_rfl) (fun _ _ _ h => h) (by rfl) ?_ (by assumption) ?_
                    rotate_left
                    · (intro w hSw; (try dsimp only at hSw); go_simp; (try with_reducible rfl))
                    (try simp only [Act.put, List.getElem_toArray, List.getElem_cons_succ, List.getElem_cons_zero, List.setIfInBounds_toArray, List.set_cons_zero, List.set_cons_succ])
                    refine' g_val (i := 11) (d := 163) (v := .agg #[.string nn, .int .i64 7, .int .u32 0, .int .i64 2, .int .i64 0, .string rv]) [11] rfl rfl (by kernel_rfl) (by kernel_rfl) (by kernel_rfl) (by kernel_rfl) (by kernel_rfl) (by kernel_rfl) (fun _ _ _ h => h) (by rfl) ?_ (by assumption) ?_
                    · exact fun w _ => exec_build (vals := #[(0, .string nn), (1, .agg #[.int .i64 7, .int .u32 0]), (2, .agg #[.int .i64 2, .int .i64 0, .string rv])]) rfl (by simp [Act.eval]) (build_attr nn rv w)
                    (try simp only [Act.put, List.getElem_toArray, List.getElem_cons_succ, List.getElem_cons_zero, List.setIfInBounds_toArray, List.set_cons_zero, List.set_cons_succ])
                    refine wpAnyG_ready (rs := [12]) (by kernel_rfl) (by simp) ?_
                    refine (AllReadyG.cons rfl (fun K hK => ?_) AllReadyG.nil)
                    rw [if_pos (by kernel_rfl)]
                    refine wp_run (exec_buildSlice (vals := #[(0, .agg #[.string nn, .int .i64 7, .int .u32 0, .int .i64 2, .int .i64 0, .string rv])]) rfl (by simp [Act.eval]) (bslice_attr nn rv w2)) ?_
                    have hbA := bel1 w2 (.cells #[.string nn, .int .i64 7, .int .u32 0, .int .i64 2, .int .i64 0, .string rv] 46)
                    have HAA := Lib.hid (heap_alloc_new w2 (.cells #[.string nn, .int .i64 7, .int .u32 0, .int .i64 2, .int .i64 0, .string rv] 46))
                    have HF3 := Lib.hid (HF2.out.below hbA)
                    have hHe3 := blk_cell hbA hHeld
                    clear hHeld HF2
                    have hHeld := hHe3
                    clear hHe3
                    refine hK.out _ _ (fun _ => hHeld) ?_
                    clear hK K
                    (try simp only [Act.put, List.getElem_toArray, List.getElem_cons_succ, List.getElem_cons_zero, List.setIfInBounds_toArray, List.set_cons_zero, List.set_cons_succ])
                    obtain ⟨gA, hgA⟩ : ∃ x, x = w2.heap.size := ⟨_, rfl⟩
                    obtain ⟨W3, hW⟩ : ∃ W, W = w2.alloc (.cells #[.string nn, .int .i64 7, .int .u32 0, .int .i64 2, .int .i64 0, .string rv] 46) := ⟨_, rfl⟩
                    change wpAnyG _ _ _ _ _ _ _ _ _ (w2.alloc (.cells #[.string nn, .int .i64 7, .int .u32 0, .int .i64 2, .int .i64 0, .string rv] 46))
                    rw [← hW] at HAA HF3 hHeld ⊢
                    rw [← hgA] at HAA ⊢
                    clear hW hbA hgA
                    refine wpAnyG_ready (rs := [13]) (by kernel_rfl) (by simp) ?_
                    refine (AllReadyG.cons rfl (fun K hK => ?_) AllReadyG.nil)
                    rw [if_pos (by kernel_rfl)]
                    refine wp_append_any (.tmp 153) (.tmp 164) 30 rfl (q7 + 1) 46 _ 6 64 Try.underlying30 infoAtt rfl (by decide) u k (acs (atsF k)) rfl HF3.out.o (some ⟨gA, 0, none⟩) 1 1 (atF k).cells rfl (by simp) (by omega) rfl ?_ (att_oneCell _) (by unfold maxLen; omega) (by omega) (Nat.le_trans (Array.getElem?_eq_some_iff.1 HF3.out.s7).1 (Nat.le_refl _)) ?_
                    · intro i hi
                      have HA2 := HAA.out
                      rw [HRV.out, HNN.out, HM.out] at HA2
                      refine ⟨_, rfl, ?_⟩
                      rw [addr_add, Nat.zero_add, cell_of HA2 i]
                      exact (List.getElem?_toArray ..).trans (List.getElem?_eq_getElem hi)
                    intro v' w' ho hg hv
                    obtain ⟨Av, cv, rfl, _⟩ := ownsRow_lies ho
                    obtain ⟨y8, y9, hF9⟩ := HF3.out.put hg ho hqq7 hq7w
                    have HF9 := Lib.hid hF9
                    clear hg ho hv hF9 HF3 HAA hHeld
                    have hHeld := y8
                    go_wp2_with fail
                    refine hK.out _ _ (fun _ => hHeld) ?_
                    clear hK K
                    (try simp only [Act.put, List.getElem_toArray, List.getElem_cons_succ, List.getElem_cons_zero, List.setIfInBounds_toArray, List.set_cons_zero, List.set_cons_succ])
                    refine' g_val (i := 14) (d := 166) (v := _) [14] rfl rfl (by kernel_rfl) (by kernel_rfl) (by kernel_rfl) (by kernel_rfl) (by kernel_rfl) (by kernel_rfl) (fun _ _ _ h => h) (by rfl) ?_ (by assumption) ?_
                    rotate_left
                    · (intro w hSw; (try dsimp only at hSw); go_simp; (try with_reducible rfl))
                    (try simp only [Act.put, List.getElem_toArray, List.getElem_cons_succ, List.getElem_cons_zero, List.setIfInBounds_toArray, List.set_cons_zero, List.set_cons_succ])
                    refine wpAnyG_ready (rs := [15]) (by kernel_rfl) (by simp) ?_
                    refine (AllReadyG.cons rfl (fun K hK => ?_) AllReadyG.nil)
                    go_simp
                    go_wp2_with fail
                    refine hK.out _ _ (fun h => absurd h (by simp)) ?_
                    clear hK K y8 y9 hHeld
                    (try simp only [Act.put, List.getElem_toArray, List.getElem_cons_succ, List.getElem_cons_zero, List.setIfInBounds_toArray, List.set_cons_zero, List.set_cons_succ])
                    refine wpAnyG_done (by kernel_rfl) ?_ _
                    go_wp2_with fail
                    exact ⟨⟨k + 1, by go_num, by omega, Lib.hid ⟨_, HF9.out⟩⟩, by simp [intOf] <;> omega⟩
                ·
                    go_simp
                    go_at_call 12
                    refine (R3.out _).mono ?_
                    rintro e w4 ⟨rfl, hbe⟩
                    have HF4 := Lib.hid (HF1.out.below hbe)
                    have HY4 := Lib.hid (HY1.out.below hbe)
                    have hHe4 := blk_cell hbe hHeld
                    clear hHeld HF1 HY1
                    have hHeld := hHe4
                    clear hHe4
                    clear hbe
                    go_wp2_with fail
                    refine hK.out _ _ (fun _ => hHeld) ?_
                    clear hK K
                    (try simp only [Act.put, List.getElem_toArray, List.getElem_cons_succ, List.getElem_cons_zero, List.setIfInBounds_toArray, List.set_cons_zero, List.set_cons_succ])
                    refine' g_val (i := 10) (d := 162) (v := _) [10] rfl rfl (by kernel_rfl) (by kernel_rfl) (by kernel_rfl) (by kernel_rfl) (by kernel_rfl) (by kernel_rfl) (fun _ _ _ h => h) (by rfl) ?_ (by assumption) ?_
                    rotate_left
                    · (intro w hSw; (try dsimp only at hSw); go_simp; (try with_reducible rfl))
                    (try simp only [Act.put, List.getElem_toArray, List.getElem_cons_succ, List.getElem_cons_zero, List.setIfInBounds_toArray, List.set_cons_zero, List.set_cons_succ])
                    refine wpAnyG_ready (rs := [6]) (by kernel_rfl) (by simp) ?_
                    refine (AllReadyG.cons rfl (fun K hK => ?_) AllReadyG.nil)
                    have hcv : (convert 35 9 (.slice (some ⟨wd.heap.size, 0, none⟩) 1 1)).run Try.prog w4 = .ok (.string (bs [m])) w4 := conv_back (l := [m]) HY4.out
                    go_simp
                    go_wp2_with fail
                    refine hK.out _ _ (fun _ => hHeld) ?_
                    clear hK K
                    (try simp only [Act.put, List.getElem_toArray, List.getElem_cons_succ, List.getElem_cons_zero, List.setIfInBounds_toArray, List.set_cons_zero, List.set_cons_succ])
                    clear hcv HY4
                    refine' g_val (i := 7) (d := 159) (v := .string nn) [7] rfl rfl (by kernel_rfl) (by kernel_rfl) (by kernel_rfl) (by kernel_rfl) (by kernel_rfl) (by kernel_rfl) (fun _ _ _ h => h) (by rfl) ?_ (by assumption) ?_
                    · (intro w hSw; (try dsimp only at hSw); go_simp; (try with_reducible rfl))
                    (try simp only [Act.put, List.getElem_toArray, List.getElem_cons_succ, List.getElem_cons_zero, List.setIfInBounds_toArray, List.set_cons_zero, List.set_cons_succ])
                    refine' g_val (i := 11) (d := 163) (v := .agg #[.string nn, .int .i64 7, .int .u32 0, .int .i64 2, .int .i64 0, .string rv]) [11] rfl rfl (by kernel_rfl) (by kernel_rfl) (by kernel_rfl) (by kernel_rfl) (by kernel_rfl) (by kernel_rfl) (fun _ _ _ h => h) (by rfl) ?_ (by assumption) ?_
                    · exact fun w _ => exec_build (vals := #[(0, .string nn), (1, .agg #[.int .i64 7, .int .u32 0]), (2, .agg #[.int .i64 2, .int .i64 0, .string rv])]) rfl (by simp [Act.eval]) (build_attr nn rv w)
                    (try simp only [Act.put, List.getElem_toArray, List.getElem_cons_succ, List.getElem_cons_zero, List.setIfInBounds_toArray, List.set_cons_zero, List.set_cons_succ])
                    refine wpAnyG_ready (rs := [12]) (by kernel_rfl) (by simp) ?_
                    refine (AllReadyG.cons rfl (fun K hK => ?_) AllReadyG.nil)
                    rw [if_pos (by kernel_rfl)]
                    refine wp_run (exec_buildSlice (vals := #[(0, .agg #[.string nn, .int .i64 7, .int .u32 0, .int .i64 2, .int .i64 0, .string rv])]) rfl (by simp [Act.eval]) (bslice_attr nn rv w4)) ?_
                    have hbA := bel1 w4 (.cells #[.string nn, .int .i64 7, .int .u32 0, .int .i64 2, .int .i64 0, .string rv] 46)
                    have HAA := Lib.hid (heap_alloc_new w4 (.cells #[.string nn, .int .i64 7, .int .u32 0, .int .i64 2, .int .i64 0, .string rv] 46))
                    have HF5 := Lib.hid (HF4.out.below hbA)
                    have hHe5 := blk_cell hbA hHeld
                    clear hHeld HF4
                    have hHeld := hHe5
                    clear hHe5
                    refine hK.out _ _ (fun _ => hHeld) ?_
                    clear hK K
                    (try simp only [Act.put, List.getElem_toArray, List.getElem_cons_succ, List.getElem_cons_zero, List.setIfInBounds_toArray, List.set_cons_zero, List.set_cons_succ])
                    obtain ⟨gA, hgA⟩ : ∃ x, x = w4.heap.size := ⟨_, rfl⟩
                    obtain ⟨W5, hW⟩ : ∃ W, W = w4.alloc (.cells #[.string nn, .int .i64 7, .int .u32 0, .int .i64 2, .int .i64 0, .string rv] 46) := ⟨_, rfl⟩
                    change wpAnyG _ _ _ _ _ _ _ _ _ (w4.alloc (.cells #[.string nn, .int .i64 7, .int .u32 0, .int .i64 2, .int .i64 0, .string rv] 46))
                    rw [← hW] at HAA HF5 hHeld ⊢
                    rw [← hgA] at HAA ⊢
                    clear hW hbA hgA
                    refine wpAnyG_ready (rs := [13]) (by kernel_rfl) (by simp) ?_
                    refine (AllReadyG.cons rfl (fun K hK => ?_) AllReadyG.nil)
                    rw [if_pos (by kernel_rfl)]
                    refine wp_append_any (.tmp 153) (.tmp 164) 30 rfl (q7 + 1) 46 _ 6 64 Try.underlying30 infoAtt rfl (by decide) u k (acs (atsF k)) rfl HF5.out.o (some ⟨gA, 0, none⟩) 1 1 (atF k).cells rfl (by simp) (by omega) rfl ?_ (att_oneCell _) (by unfold maxLen; omega) (by omega) (Nat.le_trans (Array.getElem?_eq_some_iff.1 HF5.out.s7).1 (Nat.le_refl _)) ?_
                    · intro i hi
                      have HA2 := HAA.out
                      rw [HRV.out, HNN.out, HM.out] at HA2
                      refine ⟨_, rfl, ?_⟩
                      rw [addr_add, Nat.zero_add, cell_of HA2 i]
                      exact (List.getElem?_toArray ..).trans (List.getElem?_eq_getElem hi)
                    intro v' w' ho hg hv
                    obtain ⟨Av, cv, rfl, _⟩ := ownsRow_lies ho
                    obtain ⟨y8, y9, hF9⟩ := HF5.out.put hg ho hqq7 hq7w
                    have HF9 := Lib.hid hF9
                    clear hg ho hv hF9 HF5 HAA hHeld
                    have hHeld := y8
                    go_wp2_with fail
                    refine hK.out _ _ (fun _ => hHeld) ?_
                    clear hK K
                    (try simp only [Act.put, List.getElem_toArray, List.getElem_cons_succ, List.getElem_cons_zero, List.setIfInBounds_toArray, List.set_cons_zero, List.set_cons_succ])
                    refine' g_val (i := 14) (d := 166) (v := _) [14] rfl rfl (by kernel_rfl) (by kernel_rfl) (by kernel_rfl) (by kernel_rfl) (by kernel_rfl) (by kernel_rfl) (fun _ _ _ h => h) (by rfl) ?_ (by assumption) ?_
                    rotate_left
                    · (intro w hSw; (try dsimp only at hSw); go_simp; (try with_reducible rfl))
                    (try simp only [Act.put, List.getElem_toArray, List.getElem_cons_succ, List.getElem_cons_zero, List.setIfInBounds_toArray, List.set_cons_zero, List.set_cons_succ])
                    refine wpAnyG_ready (rs := [15]) (by kernel_rfl) (by simp) ?_
                    refine (AllReadyG.cons rfl (fun K hK => ?_) AllReadyG.nil)
                    go_simp
                    go_wp2_with fail
                    refine hK.out _ _ (fun h => absurd h (by simp)) ?_
                    clear hK K y8 y9 hHeld
                    (try simp only [Act.put, List.getElem_toArray, List.getElem_cons_succ, List.getElem_cons_zero, List.setIfInBounds_toArray, List.set_cons_zero, List.set_cons_succ])
                    refine wpAnyG_done (by kernel_rfl) ?_ _
                    go_wp2_with fail
                    exact ⟨⟨k + 1, by go_num, by omega, Lib.hid ⟨_, HF9.out⟩⟩, by simp [intOf] <;> omega⟩
            ·
                go_simp
                go_at_call 12
                refine (R3.out _).mono ?_
                rintro e w6 ⟨rfl, hbe⟩
                have HF6 := Lib.hid (HF0.out.below hbe)
                have hHe6 := blk_cell hbe hHeld
                clear hHeld HF0
                have hHeld := hHe6
                clear hHe6
                clear hbe
                go_wp2_with fail
                refine hK.out _ _ (fun _ => hHeld) ?_
                clear hK K
                (try simp only [Act.put, List.getElem_toArray, List.getElem_cons_succ, List.getElem_cons_zero, List.setIfInBounds_toArray, List.set_cons_zero, List.set_cons_succ])
                refine' g_val (i := 10) (d := 162) (v := _) [10] rfl rfl (by kernel_rfl) (by kernel_rfl) (by kernel_rfl) (by kernel_rfl) (by kernel_rfl) (by kernel_rfl) (fun _ _ _ h => h) (by rfl) ?_ (by assumption) ?_
                rotate_left
                · (intro w hSw; (try dsimp only at hSw); go_simp; (try with_reducible rfl))
                (try simp only [Act.put, List.getElem_toArray, List.getElem_cons_succ, List.getElem_cons_zero, List.setIfInBounds_toArray, List.set_cons_zero, List.set_cons_succ])
                refine wpAnyG_ready (rs := [5]) (by kernel_rfl) (by simp) ?_
                refine (AllReadyG.cons rfl (fun K hK => ?_) AllReadyG.nil)
                go_simp
                go_wp2_with fail
                have hbA := bel1 w6 (.cells #[.int .u8 (m : Int)] 5)
                have HYY := Lib.hid (show BS (w6.alloc (.cells #[.int .u8 (m : Int)] 5)) (some ⟨w6.heap.size, 0, none⟩) 1 1 [m] from BS.alloc w6 [m] 5 (0, 0) (byte_conv hm8) (by simp))
                have HF7 := Lib.hid (HF6.out.below hbA)
                have hHe7 := blk_cell hbA hHeld
                clear hHeld HF6
                have hHeld := hHe7
                clear hHe7
                refine hK.out _ _ (fun _ => hHeld) ?_
                clear hK K
                (try simp only [Act.put, List.getElem_toArray, List.getElem_cons_succ, List.getElem_cons_zero, List.setIfInBounds_toArray, List.set_cons_zero, List.set_cons_succ])
                obtain ⟨W7, hW⟩ : ∃ W, W = w6.alloc (.cells #[.int .u8 (m : Int)] 5) := ⟨_, rfl⟩
                change wpAnyG _ _ _ _ _ _ _ _ _ (w6.alloc (.cells #[.int .u8 (m : Int)] 5))
                rw [← hW] at HYY HF7 hHeld ⊢
                clear hW hbA
                have HY7 := HYY
                clear HYY
                refine wpAnyG_ready (rs := [6]) (by kernel_rfl) (by simp) ?_
                refine (AllReadyG.cons rfl (fun K hK => ?_) AllReadyG.nil)
                have hcv : (convert 35 9 (.slice (some ⟨w6.heap.size, 0, none⟩) 1 1)).run Try.prog W7 = .ok (.string (bs [m])) W7 := conv_back (l := [m]) HY7.out
                go_simp
                go_wp2_with fail
                refine hK.out _ _ (fun _ => hHeld) ?_
                clear hK K
                (try simp only [Act.put, List.getElem_toArray, List.getElem_cons_succ, List.getElem_cons_zero, List.setIfInBounds_toArray, List.set_cons_zero, List.set_cons_succ])
                clear hcv HY7
                refine' g_val (i := 7) (d := 159) (v := .string nn) [7] rfl rfl (by kernel_rfl) (by kernel_rfl) (by kernel_rfl) (by kernel_rfl) (by kernel_rfl) (by kernel_rfl) (fun _ _ _ h => h) (by rfl) ?_ (by assumption) ?_
                · (intro w hSw; (try dsimp only at hSw); go_simp; (try with_reducible rfl))
                (try simp only [Act.put, List.getElem_toArray, List.getElem_cons_succ, List.getElem_cons_zero, List.setIfInBounds_toArray, List.set_cons_zero, List.set_cons_succ])
                refine' g_val (i := 11) (d := 163) (v := .agg #[.string nn, .int .i64 7, .int .u32 0, .int .i64 2, .int .i64 0, .string rv]) [11] rfl rfl (by kernel_rfl) (by kernel_rfl) (by kernel_rfl) (by kernel_rfl) (by kernel_rfl) (by kernel_rfl) (fun _ _ _ h => h) (by rfl) ?_ (by assumption) ?_
                · exact fun w _ => exec_build (vals := #[(0, .string nn), (1, .agg #[.int .i64 7, .int .u32 0]), (2, .agg #[.int .i64 2, .int .i64 0, .string rv])]) rfl (by simp [Act.eval]) (build_attr nn rv w)
                (try simp only [Act.put, List.getElem_toArray, List.getElem_cons_succ, List.getElem_cons_zero, List.setIfInBounds_toArray, List.set_cons_zero, List.set_cons_succ])
                refine wpAnyG_ready (rs := [12]) (by kernel_rfl) (by simp) ?_
                refine (AllReadyG.cons rfl (fun K hK => ?_) AllReadyG.nil)
                rw [if_pos (by kernel_rfl)]
                refine wp_run (exec_buildSlice (vals := #[(0, .agg #[.string nn, .int .i64 7, .int .u32 0, .int .i64 2, .int .i64 0, .string rv])]) rfl (by simp [Act.eval]) (bslice_attr nn rv W7)) ?_
                have hbA := bel1 W7 (.cells #[.string nn, .int .i64 7, .int .u32 0, .int .i64 2, .int .i64 0, .string rv] 46)
                have HAA := Lib.hid (heap_alloc_new W7 (.cells #[.string nn, .int .i64 7, .int .u32 0, .int .i64 2, .int .i64 0, .string rv] 46))
                have HF8 := Lib.hid (HF7.out.below hbA)
                have hHe8 := blk_cell hbA hHeld
                clear hHeld HF7
                have hHeld := hHe8
                clear hHe8
                refine hK.out _ _ (fun _ => hHeld) ?_
                clear hK K
                (try simp only [Act.put, List.getElem_toArray, List.getElem_cons_succ, List.getElem_cons_zero, List.setIfInBounds_toArray, List.set_cons_zero, List.set_cons_succ])
                obtain ⟨gA, hgA⟩ : ∃ x, x = W7.heap.size := ⟨_, rfl⟩
                obtain ⟨W8, hW⟩ : ∃ W, W = W7.alloc (.cells #[.string nn, .int .i64 7, .int .u32 0, .int .i64 2, .int .i64 0, .string rv] 46) := ⟨_, rfl⟩
                change wpAnyG _ _ _ _ _ _ _ _ _ (W7.alloc (.cells #[.string nn, .int .i64 7, .int .u32 0, .int .i64 2, .int .i64 0, .string rv] 46))
                rw [← hW] at HAA HF8 hHeld ⊢
                rw [← hgA] at HAA ⊢
                clear hW hbA hgA
                refine wpAnyG_ready (rs := [13]) (by kernel_rfl) (by simp) ?_
                refine (AllReadyG.cons rfl (fun K hK => ?_) AllReadyG.nil)
                rw [if_pos (by kernel_rfl)]
                refine wp_append_any (.tmp 153) (.tmp 164) 30 rfl (q7 + 1) 46 _ 6 64 Try.underlying30 infoAtt rfl (by decide) u k (acs (atsF k)) rfl HF8.out.o (some ⟨gA, 0, none⟩) 1 1 (atF k).cells rfl (by simp) (by omega) rfl ?_ (att_oneCell _) (by unfold maxLen; omega) (by omega) (Nat.le_trans (Array.getElem?_eq_some_iff.1 HF8.out.s7).1 (Nat.le_refl _)) ?_
                · intro i hi
                  have HA2 := HAA.out
                  rw [HRV.out, HNN.out, HM.out] at HA2
                  refine ⟨_, rfl, ?_⟩
                  rw [addr_add, Nat.zero_add, cell_of HA2 i]
                  exact (List.getElem?_toArray ..).trans (List.getElem?_eq_getElem hi)
                intro v' w' ho hg hv
                obtain ⟨Av, cv, rfl, _⟩ := ownsRow_lies ho
                obtain ⟨y8, y9, hF9⟩ := HF8.out.put hg ho hqq7 hq7w
                have HF9 := Lib.hid hF9
                clear hg ho hv hF9 HF8 HAA hHeld
                have hHeld := y8
                go_wp2_with fail
                refine hK.out _ _ (fun _ => hHeld) ?_
                clear hK K
                (try simp only [Act.put, List.getElem_toArray, List.getElem_cons_succ, List.getElem_cons_zero, List.setIfInBounds_toArray, List.set_cons_zero, List.set_cons_succ])
                refine' g_val (i := 14) (d := 166) (v := _) [14] rfl rfl (by kernel_rfl) (by kernel_rfl) (by kernel_rfl) (by kernel_rfl) (by kernel_rfl) (by kernel_rfl) (fun _ _ _ h => h) (by rfl) ?_ (by assumption) ?_
                rotate_left
                · (intro w hSw; (try dsimp only at hSw); go_simp; (try with_reducible rfl))
                (try simp only [Act.put, List.getElem_toArray, List.getElem_cons_succ, List.getElem_cons_zero, List.setIfInBounds_toArray, List.set_cons_zero, List.set_cons_succ])
                refine wpAnyG_ready (rs := [15]) (by kernel_rfl) (by simp) ?_
                refine (AllReadyG.cons rfl (fun K hK => ?_) AllReadyG.nil)
                go_simp
                go_wp2_with fail
                refine hK.out _ _ (fun h => absurd h (by simp)) ?_
                clear hK K y8 y9 hHeld
                (try simp only [Act.put, List.getElem_toArray, List.getElem_cons_succ, List.getElem_cons_zero, List.setIfInBounds_toArray, List.set_cons_zero, List.set_cons_succ])
                refine wpAnyG_done (by kernel_rfl) ?_ _
                go_wp2_with fail
                exact ⟨⟨k + 1, by go_num, by omega, Lib.hid ⟨_, HF9.out⟩⟩, by simp [intOf] <;> omega⟩
        · obtain rfl : k = 8 := by omega
          obtain ⟨u, hF⟩ := HF.out
          have h6 := heap_set hF.b6 2 (.slice none 0 0)
          have HG := Lib.hid (show FulC w (wr.setCell ⟨q, 2, none⟩ (.slice none 0 0)) 16 9007199254740991 q q7 (fulS 8) (List.replicate 0 (fulS 8)) u (.slice none 0 0) from ⟨hF.bw.setCell (p := ⟨q, 2, none⟩) hqw _, (Below.heap_setCell wr ⟨q, 2, none⟩ (.slice none 0 0) q7 (Ne.symm hqq7)).trans hF.s7, ownsRow_setCell_other hF.o (a := ⟨q, 2, none⟩) (own_ne2 hF.o hF.b6 (by decide)) _, h6, SpOwn.nil _ _⟩)
          have y0 : wr.cell? ⟨q, 2, none⟩ = some _ ∧ wr.frozen? ⟨q, 2, none⟩ = false := ⟨cell_of hF.b6 2, frozen_of hF.b6 2⟩
          obtain ⟨y0, y1⟩ := y0
          simp only [show ((8 : Nat) : Int) = 8 from rfl]
          go_upto_region 62 with (fail)
          obtain ⟨W9, hW⟩ : ∃ W, W = wr.setCell ⟨q, 2, none⟩ (.slice none 0 0) := ⟨_, rfl⟩
          rw [← hW] at HG ⊢
          clear hW y0 y1 hF HF h6
          go_wp2_with fail
          go_loopw [9] (fun i wr => ∃ k : Nat, i = .int .i64 k ∧ k ≤ 9 ∧ Hid (∃ v, FulC w wr 16 9007199254740991 q q7 (fulS 8) (List.replicate k (fulS 8)) u v)) (fun i _ => 9 - (intOf i).toNat)
          case atStart => exact ⟨0, rfl, Nat.zero_le _, Lib.hid ⟨_, HG.out⟩⟩
          case round =>
            clear HG
            obtain ⟨k, rfl, hk, HG⟩ := hrel
            by_cases hkm : k < 9
            · as_aux_lemma =>
                  obtain ⟨v, hG⟩ := HG.out
                  have hki : (k : Int) < 9 := by omega
                  have c2 := cell_of hG.b6 2
                  have x0 : wr.cell? ⟨q7, 0, none⟩ = some (.int .i64 3) := cell_of hG.s7 0
                  have x1 : wr.cell? ⟨q7, 1, none⟩ = some (.int .i64 4) := cell_of hG.s7 1
                  have x2 : wr.cell? ⟨q7, 2, none⟩ = some (.int .i64 0) := cell_of hG.s7 2
                  have x3 : wr.cell? ⟨q7, 3, none⟩ = some (.string (repB 115 24)) := cell_of hG.s7 3
                  have x4 : wr.cell? ⟨q7, 4, none⟩ = some (.string ⟨#[98]⟩) := cell_of hG.s7 4
                  have x5 : wr.cell? ⟨q7, 5, none⟩ = some (.int .i64 5) := cell_of hG.s7 5
                  have x6 : wr.cell? ⟨q7, 6, none⟩ = some (.int .i64 9007199254740986) := cell_of hG.s7 6
                  have x7 : wr.cell? ⟨q7, 7, none⟩ = some (.string (repB 115 64)) := cell_of hG.s7 7
                  have x8 : wr.cell? ⟨q7, 8, none⟩ = some u := cell_of hG.s7 8
                  simp at c2
                  have HG1 := Lib.hid (hG.below (bel1 wr (.cells #[.int .i64 3, .int .i64 4, .int .i64 0, .string (repB 115 24), .string ⟨#[98]⟩, .int .i64 5, .int .i64 9007199254740986, .string (repB 115 64), u] 32)))
                  have HN1 := Lib.hid (show BSp (wr.alloc (.cells #[.int .i64 3, .int .i64 4, .int .i64 0, .string (repB 115 24), .string ⟨#[98]⟩, .int .i64 5, .int .i64 9007199254740986, .string (repB 115 64), u] 32)) wr.heap.size (fulS 8) u from BSp.new wr (fulS 8) u)
                  clear hG HG
                  go_wp2_with (first | (refine wpList_bs rfl _ _ _ rfl #[(0, .agg #[.int .i64 3, .int .i64 4, .int .i64 0, .string (repB 115 24), .string ⟨#[98]⟩, .int .i64 5, .int .i64 9007199254740986, .string (repB 115 64), u])] _ (by simp [Act.eval]) (bslice_spn 3 4 0 5 9007199254740986 (repB 115 24) ⟨#[98]⟩ (repB 115 64) u wr) ?_) | (at_builtin; refine append_sp rfl (.tmp 173) (.tmp 175) rfl (q7 + 1) v (List.replicate (k) (fulS 8)) (fulS 8) u rfl HG1.out.sp HG1.out.o wr.heap.size rfl HN1.out (by rw [List.length_replicate]; omega) (Array.getElem?_eq_some_iff.1 HG1.out.s7).1 ?_; intro v' w' ho hg hv; obtain ⟨Av, cv, hvv⟩ : ∃ A c, v' = .slice A (k + 1) c := (by obtain ⟨A, c, e⟩ := ho.len; exact ⟨A, c, (by rw [e, List.length_append, List.length_replicate]; rfl)⟩); subst hvv; obtain ⟨y0, y1, hG2⟩ := HG1.out.put ho hg hqq7 hqw hq7w; have HG2 := Lib.hid hG2; clear ho hg hv hG2 HG1 HN1))
                  exact ⟨⟨k + 1, by go_num, by omega, Lib.hid ⟨_, by have h := HG2.out; rw [← rep_snoc] at h; exact h⟩⟩, by simp [intOf] <;> omega⟩
            · obtain rfl : k = 9 := by omega
              obtain ⟨v, hG⟩ := HG.out
              obtain ⟨A, c, rfl, hL⟩ := hG.lsOf (fulS_pt 8) (by omega) (by decide)
              obtain ⟨c0, c1, c2⟩ := bat_block hG.b6
              have HG := Lib.hid hG
              clear hG
              simp only [show ((9 : Nat) : Int) = 9 from rfl]
              go_wp2_with fail
              as_aux_lemma =>
              refine (batCheck_any (b := ⟨16, 9007199254740991, List.replicate 9 (fulS 8)⟩) hL).mono ?_
              rw [btP_yes ful_yes]
              rintro e w9 ⟨rfl, hb9⟩
              have HG9 := Lib.hid (HG.out.below hb9)
              clear hL HG hb9 c0 c1 c2
              go_wp2_with fail
              go_loopw [11] (fun i wr => ∃ k : Nat, i = .int .i64 k ∧ k ≤ 3 ∧ Hid (∃ v, FulC w wr 16 9007199254740991 q q7 (fulS 8) (List.replicate (9 + k) (fulS 8)) u v)) (fun i _ => 3 - (intOf i).toNat)
              case atStart => exact ⟨0, rfl, Nat.zero_le _, Lib.hid ⟨_, HG9.out⟩⟩
              case round =>
                clear HG9
                obtain ⟨k, rfl, hk, HG⟩ := hrel
                by_cases hkm : k < 3
                · as_aux_lemma =>
                      obtain ⟨v, hG⟩ := HG.out
                      have hki : (k : Int) < 3 := by omega
                      have c2 := cell_of hG.b6 2
                      have x0 : wr.cell? ⟨q7, 0, none⟩ = some (.int .i64 3) := cell_of hG.s7 0
                      have x1 : wr.cell? ⟨q7, 1, none⟩ = some (.int .i64 4) := cell_of hG.s7 1
                      have x2 : wr.cell? ⟨q7, 2, none⟩ = some (.int .i64 0) := cell_of hG.s7 2
                      have x3 : wr.cell? ⟨q7, 3, none⟩ = some (.string (repB 115 24)) := cell_of hG.s7 3
                      have x4 : wr.cell? ⟨q7, 4, none⟩ = some (.string ⟨#[98]⟩) := cell_of hG.s7 4
                      have x5 : wr.cell? ⟨q7, 5, none⟩ = some (.int .i64 5) := cell_of hG.s7 5
                      have x6 : wr.cell? ⟨q7, 6, none⟩ = some (.int .i64 9007199254740986) := cell_of hG.s7 6
                      have x7 : wr.cell? ⟨q7, 7, none⟩ = some (.string (repB 115 64)) := cell_of hG.s7 7
                      have x8 : wr.cell? ⟨q7, 8, none⟩ = some u := cell_of hG.s7 8
                      simp at c2
                      have HG1 := Lib.hid (hG.below (bel1 wr (.cells #[.int .i64 3, .int .i64 4, .int .i64 0, .string (repB 115 24), .string ⟨#[98]⟩, .int .i64 5, .int .i64 9007199254740986, .string (repB 115 64), u] 32)))
                      have HN1 := Lib.hid (show BSp (wr.alloc (.cells #[.int .i64 3, .int .i64 4, .int .i64 0, .string (repB 115 24), .string ⟨#[98]⟩, .int .i64 5, .int .i64 9007199254740986, .string (repB 115 64), u] 32)) wr.heap.size (fulS 8) u from BSp.new wr (fulS 8) u)
                      clear hG HG
                      go_wp2_with (first | (refine wpList_bs rfl _ _ _ rfl #[(0, .agg #[.int .i64 3, .int .i64 4, .int .i64 0, .string (repB 115 24), .string ⟨#[98]⟩, .int .i64 5, .int .i64 9007199254740986, .string (repB 115 64), u])] _ (by simp [Act.eval]) (bslice_spn 3 4 0 5 9007199254740986 (repB 115 24) ⟨#[98]⟩ (repB 115 64) u wr) ?_) | (at_builtin; refine append_sp rfl (.tmp 185) (.tmp 187) rfl (q7 + 1) v (List.replicate (9 + k) (fulS 8)) (fulS 8) u rfl HG1.out.sp HG1.out.o wr.heap.size rfl HN1.out (by rw [List.length_replicate]; omega) (Array.getElem?_eq_some_iff.1 HG1.out.s7).1 ?_; intro v' w' ho hg hv; obtain ⟨Av, cv, hvv⟩ : ∃ A c, v' = .slice A (9 + k + 1) c := (by obtain ⟨A, c, e⟩ := ho.len; exact ⟨A, c, (by rw [e, List.length_append, List.length_replicate]; rfl)⟩); subst hvv; obtain ⟨y0, y1, hG2⟩ := HG1.out.put ho hg hqq7 hqw hq7w; have HG2 := Lib.hid hG2; clear ho hg hv hG2 HG1 HN1))
                      exact ⟨⟨k + 1, by go_num, by omega, Lib.hid ⟨_, by have h := HG2.out; rw [← rep_snoc] at h; exact h⟩⟩, by simp [intOf] <;> omega⟩
                · obtain rfl : k = 3 := by omega
                  obtain ⟨v, hG⟩ := HG.out
                  obtain ⟨A, c, rfl, hL⟩ := hG.lsOf (fulS_pt 8) (by omega) (by decide)
                  obtain ⟨c0, c1, c2⟩ := bat_block hG.b6
                  have HB := Lib.hid hG.bw
                  clear hG HG
                  simp only [show ((3 : Nat) : Int) = 3 from rfl]
                  go_wp2_with fail
                  as_aux_lemma =>
                  refine (batCheck_any (b := ⟨16, 9007199254740991, List.replicate 12 (fulS 8)⟩) hL).mono ?_
                  rw [btP_no ful_no]
                  rintro e wa ⟨rfl, hba⟩
                  have HBa := Lib.hid (nx HB.out hba)
                  clear hL HB hba c0 c1 c2
                  go_wp2_with fail
                  refine (chapter2_any _).mono ?_
                  rintro e w1 ⟨g2, rfl, hS, hg, hb1⟩
                  have hb2 := nx HBa.out hb1
                  have hg2w : w.heap.size ≤ g2 := by have := HBa.out.size; omega
                  obtain ⟨q2, hqq⟩ : ∃ q, q = w1.heap.size := ⟨_, rfl⟩
                  have hq2w : w.heap.size ≤ q2 := by have := hb2.size; omega
                  have hgq2 : g2 ≠ q2 := by have := (Array.getElem?_eq_some_iff.1 hS).1; omega
                  have hX0 := heap_alloc_new w1 (.cells #[.int .i64 1, .int .i64 2, .slice (some ⟨g2, 0, none⟩) 1 1] 24)
                  have hS0 := hS.below (bel1 w1 (.cells #[.int .i64 1, .int .i64 2, .slice (some ⟨g2, 0, none⟩) 1 1] 24))
                  have hB1 := nx hb2 (bel1 w1 (.cells #[.int .i64 1, .int .i64 2, .slice (some ⟨g2, 0, none⟩) 1 1] 24))
                  have HM := Lib.hid (show Many w (w1.alloc (.cells #[.int .i64 1, .int .i64 2, .slice (some ⟨g2, 0, none⟩) 1 1] 24)) w1.heap.size (0 + 1) (.slice (some ⟨g2, 0, none⟩) 1 1) from ⟨hB1, hX0, SpOwn.one hS0 hg2w⟩)
                  rw [← hqq] at HM
                  clear hb2 hb1 hS hg hX0 hS0 hB1 HBa
                  go_upto_region 73 with (fail)
                  (try rw [← hqq])
                  obtain ⟨W, hW⟩ : ∃ W, W = w1.alloc (.cells #[.int .i64 1, .int .i64 2, .slice (some ⟨g2, 0, none⟩) 1 1] 24) := ⟨_, rfl⟩
                  rw [← hW] at HM ⊢
                  clear hW hqq
                  go_wp2_with fail
                  go_loopw [14] (fun i wr => ∃ k : Nat, i = .int .i64 k ∧ k ≤ 15 ∧ Hid (∃ v, Many w wr q2 (k + 1) v)) (fun i _ => 15 - (intOf i).toNat)
                  case atStart => exact ⟨0, rfl, Nat.zero_le _, Lib.hid ⟨_, HM.out⟩⟩
                  case round =>
                    clear HM
                    obtain ⟨k, rfl, hk, HM⟩ := hrel
                    by_cases hkm : k < 15
                    · as_aux_lemma =>
                          obtain ⟨v, hM⟩ := HM.out
                          obtain ⟨gb, c, u, rfl, hx, hu⟩ := hM.sp.elem0
                          have HM0 := Lib.hid (hM.below (bel0 wr).drew)
                          have hki : (k : Int) < 15 := by omega
                          have haa : (⟨gb, 0, none⟩ : Addr).add 0 = ⟨gb, 0, none⟩ := addr_add _ _ _
                          have hk0 : (0 : Int) < ((k + 1 : Nat) : Int) := by omega
                          have HU := Lib.hid (ownsRow_below hu (bel0 wr).drew)
                          have hHeld : wr.drew.cell? ⟨q2, 2, none⟩ = some (.slice (some ⟨gb, 0, none⟩) (k + 1) c) ∧ wr.drew.cell? ⟨gb, 0, none⟩ = some (.int .i64 3) ∧ wr.drew.cell? ⟨gb, 1, none⟩ = some (.int .i64 4) ∧ wr.drew.cell? ⟨gb, 2, none⟩ = some (.int .i64 0) ∧ wr.drew.cell? ⟨gb, 3, none⟩ = some (.string ⟨#[97]⟩) ∧ wr.drew.cell? ⟨gb, 4, none⟩ = some (.string ⟨#[98]⟩) ∧ wr.drew.cell? ⟨gb, 5, none⟩ = some (.int .i64 5) ∧ wr.drew.cell? ⟨gb, 6, none⟩ = some (.int .i64 6) ∧ wr.drew.cell? ⟨gb, 7, none⟩ = some (.string ⟨#[]⟩) ∧ wr.drew.cell? ⟨gb, 8, none⟩ = some u := ⟨cell_of HM0.out.b6 2, hx 0 _ rfl, hx 1 _ rfl, hx 2 _ rfl, hx 3 _ rfl, hx 4 _ rfl, hx 5 _ rfl, hx 6 _ rfl, hx 7 _ rfl, hx 8 _ rfl⟩
                          clear hx hu hM HM
                          go_upto_region 76 with (fail)
                          refine wp_region_g 7 (fun w' => w'.cell? ⟨q2, 2, none⟩ = some (.slice (some ⟨gb, 0, none⟩) (k + 1) c) ∧ w'.cell? ⟨gb, 0, none⟩ = some (.int .i64 3) ∧ w'.cell? ⟨gb, 1, none⟩ = some (.int .i64 4) ∧ w'.cell? ⟨gb, 2, none⟩ = some (.int .i64 0) ∧ w'.cell? ⟨gb, 3, none⟩ = some (.string ⟨#[97]⟩) ∧ w'.cell? ⟨gb, 4, none⟩ = some (.string ⟨#[98]⟩) ∧ w'.cell? ⟨gb, 5, none⟩ = some (.int .i64 5) ∧ w'.cell? ⟨gb, 6, none⟩ = some (.int .i64 6) ∧ w'.cell? ⟨gb, 7, none⟩ = some (.string ⟨#[]⟩) ∧ w'.cell? ⟨gb, 8, none⟩ = some u) (by kernel_rfl) ?_
                          generalize wr.drew = wd at HM0 HU hHeld ⊢
                          refine' g_val (i := 0) (d := 197) (v := _) [1, 0] rfl rfl (by kernel_rfl) (by kernel_rfl) (by kernel_rfl) (by kernel_rfl) (by kernel_rfl) (by kernel_rfl) (fun _ _ _ h => h) (by rfl) ?_ (by assumption) ?_
                          rotate_left
                          · (intro w hSw; (try dsimp only at hSw); go_simp; (try with_reducible rfl))
                          (try simp only [Act.put, List.getElem_toArray, List.getElem_cons_succ, List.getElem_cons_zero, List.setIfInBounds_toArray, List.set_cons_zero, List.set_cons_succ])
                          refine' g_val (i := 1) (d := 198) (v := _) [1] rfl rfl (by kernel_rfl) (by kernel_rfl) (by kernel_rfl) (by kernel_rfl) (by kernel_rfl) (by kernel_rfl) (fun _ _ _ h => h) (by rfl) ?_ (by assumption) ?_
                          rotate_left
                          · (intro w hSw; (try dsimp only at hSw); go_simp; (try with_reducible rfl))
                          (try simp only [Act.put, List.getElem_toArray, List.getElem_cons_succ, List.getElem_cons_zero, List.setIfInBounds_toArray, List.set_cons_zero, List.set_cons_succ])
                          refine' g_val (i := 2) (d := 199) (v := _) [6, 5, 4, 3, 2] rfl rfl (by kernel_rfl) (by kernel_rfl) (by kernel_rfl) (by kernel_rfl) (by kernel_rfl) (by kernel_rfl) (fun _ _ _ h => h) (by rfl) ?_ (by assumption) ?_
                          rotate_left
                          · (intro w hSw; (try dsimp only at hSw); go_simp; (try with_reducible rfl))
                          (try simp only [Act.put, List.getElem_toArray, List.getElem_cons_succ, List.getElem_cons_zero, List.setIfInBounds_toArray, List.set_cons_zero, List.set_cons_succ])
                          refine' g_val (i := 3) (d := 200) (v := _) [6, 5, 4, 3] rfl rfl (by kernel_rfl) (by kernel_rfl) (by kernel_rfl) (by kernel_rfl) (by kernel_rfl) (by kernel_rfl) (fun _ _ _ h => h) (by rfl) ?_ (by assumption) ?_
                          rotate_left
                          · (intro w hSw; (try dsimp only at hSw); go_simp; (try with_reducible rfl))
                          (try simp only [Act.put, List.getElem_toArray, List.getElem_cons_succ, List.getElem_cons_zero, List.setIfInBounds_toArray, List.set_cons_zero, List.set_cons_succ])
                          refine' g_val (i := 4) (d := 201) (v := _) [6, 5, 4] rfl rfl (by kernel_rfl) (by kernel_rfl) (by kernel_rfl) (by kernel_rfl) (by kernel_rfl) (by kernel_rfl) (fun _ _ _ h => h) (by rfl) ?_ (by assumption) ?_
                          rotate_left
                          · (intro w hSw; (try dsimp only at hSw); go_simp; (try with_reducible rfl))
                          (try simp only [Act.put, List.getElem_toArray, List.getElem_cons_succ, List.getElem_cons_zero, List.setIfInBounds_toArray, List.set_cons_zero, List.set_cons_succ])
                          refine' g_val (i := 5) (d := 202) (v := _) [6, 5] rfl rfl (by kernel_rfl) (by kernel_rfl) (by kernel_rfl) (by kernel_rfl) (by kernel_rfl) (by kernel_rfl) (fun _ _ _ h => h) (by rfl) ?_ (by assumption) ?_
                          rotate_left
                          · (intro w hSw; (try dsimp only at hSw); go_simp; (try with_reducible rfl))
                          (try simp only [Act.put, List.getElem_toArray, List.getElem_cons_succ, List.getElem_cons_zero, List.setIfInBounds_toArray, List.set_cons_zero, List.set_cons_succ])
                          refine wpAnyG_ready (rs := [6]) (by kernel_rfl) (by simp) ?_
                          refine (AllReadyG.cons rfl (fun K hK => ?_) AllReadyG.nil)
                          rw [if_pos (by kernel_rfl)]
                          refine wp_run (exec_buildSlice (vals := #[(0, .agg #[.int .i64 3, .int .i64 4, .int .i64 0, .string ⟨#[97]⟩, .string ⟨#[98]⟩, .int .i64 5, .int .i64 6, .string ⟨#[]⟩, u])]) rfl (by simp [Act.eval]) (bslice_spn 3 4 0 5 6 ⟨#[97]⟩ ⟨#[98]⟩ ⟨#[]⟩ u wd)) ?_
                          have hbA := bel1 wd (.cells #[.int .i64 3, .int .i64 4, .int .i64 0, .string ⟨#[97]⟩, .string ⟨#[98]⟩, .int .i64 5, .int .i64 6, .string ⟨#[]⟩, u] 32)
                          have HN1 := Lib.hid (show BSp (wd.alloc (.cells #[.int .i64 3, .int .i64 4, .int .i64 0, .string ⟨#[97]⟩, .string ⟨#[98]⟩, .int .i64 5, .int .i64 6, .string ⟨#[]⟩, u] 32)) wd.heap.size chS u from BSp.new wd chS u)
                          have HM1 := Lib.hid (HM0.out.below hbA)
                          have HU1 := Lib.hid (ownsRow_below HU.out hbA)
                          have hHe : (wd.alloc (.cells #[.int .i64 3, .int .i64 4, .int .i64 0, .string ⟨#[97]⟩, .string ⟨#[98]⟩, .int .i64 5, .int .i64 6, .string ⟨#[]⟩, u] 32)).cell? ⟨q2, 2, none⟩ = some (.slice (some ⟨gb, 0, none⟩) (k + 1) c) ∧ (wd.alloc (.cells #[.int .i64 3, .int .i64 4, .int .i64 0, .string ⟨#[97]⟩, .string ⟨#[98]⟩, .int .i64 5, .int .i64 6, .string ⟨#[]⟩, u] 32)).cell? ⟨gb, 0, none⟩ = some (.int .i64 3) ∧ (wd.alloc (.cells #[.int .i64 3, .int .i64 4, .int .i64 0, .string ⟨#[97]⟩, .string ⟨#[98]⟩, .int .i64 5, .int .i64 6, .string ⟨#[]⟩, u] 32)).cell? ⟨gb, 1, none⟩ = some (.int .i64 4) ∧ (wd.alloc (.cells #[.int .i64 3, .int .i64 4, .int .i64 0, .string ⟨#[97]⟩, .string ⟨#[98]⟩, .int .i64 5, .int .i64 6, .string ⟨#[]⟩, u] 32)).cell? ⟨gb, 2, none⟩ = some (.int .i64 0) ∧ (wd.alloc (.cells #[.int .i64 3, .int .i64 4, .int .i64 0, .string ⟨#[97]⟩, .string ⟨#[98]⟩, .int .i64 5, .int .i64 6, .string ⟨#[]⟩, u] 32)).cell? ⟨gb, 3, none⟩ = some (.string ⟨#[97]⟩) ∧ (wd.alloc (.cells #[.int .i64 3, .int .i64 4, .int .i64 0, .string ⟨#[97]⟩, .string ⟨#[98]⟩, .int .i64 5, .int .i64 6, .string ⟨#[]⟩, u] 32)).cell? ⟨gb, 4, none⟩ = some (.string ⟨#[98]⟩) ∧ (wd.alloc (.cells #[.int .i64 3, .int .i64 4, .int .i64 0, .string ⟨#[97]⟩, .string ⟨#[98]⟩, .int .i64 5, .int .i64 6, .string ⟨#[]⟩, u] 32)).cell? ⟨gb, 5, none⟩ = some (.int .i64 5) ∧ (wd.alloc (.cells #[.int .i64 3, .int .i64 4, .int .i64 0, .string ⟨#[97]⟩, .string ⟨#[98]⟩, .int .i64 5, .int .i64 6, .string ⟨#[]⟩, u] 32)).cell? ⟨gb, 6, none⟩ = some (.int .i64 6) ∧ (wd.alloc (.cells #[.int .i64 3, .int .i64 4, .int .i64 0, .string ⟨#[97]⟩, .string ⟨#[98]⟩, .int .i64 5, .int .i64 6, .string ⟨#[]⟩, u] 32)).cell? ⟨gb, 7, none⟩ = some (.string ⟨#[]⟩) ∧ (wd.alloc (.cells #[.int .i64 3, .int .i64 4, .int .i64 0, .string ⟨#[97]⟩, .string ⟨#[98]⟩, .int .i64 5, .int .i64 6, .string ⟨#[]⟩, u] 32)).cell? ⟨gb, 8, none⟩ = some u := ⟨blk_cell hbA hHeld.1, blk_cell hbA hHeld.2.1, blk_cell hbA hHeld.2.2.1, blk_cell hbA hHeld.2.2.2.1, blk_cell hbA hHeld.2.2.2.2.1, blk_cell hbA hHeld.2.2.2.2.2.1, blk_cell hbA hHeld.2.2.2.2.2.2.1, blk_cell hbA hHeld.2.2.2.2.2.2.2.1, blk_cell hbA hHeld.2.2.2.2.2.2.2.2.1, blk_cell hbA hHeld.2.2.2.2.2.2.2.2.2⟩
                          clear hHeld HM0 HU
                          have hHeld := hHe
                          clear hHe
                          refine hK.out _ _ (fun _ => hHeld) ?_
                          clear hK K
                          (try simp only [Act.put, List.getElem_toArray, List.getElem_cons_succ, List.getElem_cons_zero, List.setIfInBounds_toArray, List.set_cons_zero, List.set_cons_succ])
                          obtain ⟨gA, hgA⟩ : ∃ x, x = wd.heap.size := ⟨_, rfl⟩
                          obtain ⟨W6, hW⟩ : ∃ W, W = wd.alloc (.cells #[.int .i64 3, .int .i64 4, .int .i64 0, .string ⟨#[97]⟩, .string ⟨#[98]⟩, .int .i64 5, .int .i64 6, .string ⟨#[]⟩, u] 32) := ⟨_, rfl⟩
                          change wpAnyG _ _ _ _ _ _ _ _ _ (wd.alloc (.cells #[.int .i64 3, .int .i64 4, .int .i64 0, .string ⟨#[97]⟩, .string ⟨#[98]⟩, .int .i64 5, .int .i64 6, .string ⟨#[]⟩, u] 32))
                          rw [← hW] at HN1 HM1 HU1 hHeld ⊢
                          rw [← hgA] at HN1 ⊢
                          clear hW hbA hgA
                          refine wpAnyG_ready (rs := [7]) (by kernel_rfl) (by simp) ?_
                          refine (AllReadyG.cons rfl (fun K hK => ?_) AllReadyG.nil)
                          rw [if_pos (by kernel_rfl)]
                          obtain ⟨vs, hv0, ho1, ho2⟩ := HM1.out.sp
                          have hlr : (List.replicate (k + 1) chS).length = k + 1 := List.length_replicate ..
                          rw [hlr] at ho1
                          refine wp_append_any (.tmp 198) (.tmp 203) 22 rfl w.heap.size 32 _ 9 112 Try.underlying22 infoSpn rfl (by decide) (.slice (some ⟨gb, 0, none⟩) (k + 1) c) (k + 1) (spc (List.replicate (k + 1) chS) vs) rfl ho1 (some ⟨gA, 0, none⟩) 1 1 (chS.cells u) rfl (by simp) (by omega) rfl ?_ (spn_oneCell chS (by rcases HU1.out.2 with ⟨e, _⟩ | ⟨_, _, _, e, _⟩ <;> rw [e] <;> rfl)) (by unfold maxLen; omega) (by omega) HM1.out.bw.size ?_
                          · intro i hi
                            refine ⟨_, rfl, ?_⟩
                            rw [addr_add, Nat.zero_add, cell_of HN1.out i]
                            exact (List.getElem?_toArray ..).trans (List.getElem?_eq_getElem hi)
                          intro v' w' ho hg hv
                          obtain ⟨Av, cv, rfl, _⟩ := ownsRow_lies ho
                          have HS9 : SpOwn w' w.heap.size (.slice Av (k + 1 + 1) cv) (List.replicate (k + 1 + 1) chS) := SpOwn.snoc HM1.out.sp hv0 ho1 ho2 HU1.out hg ho
                          obtain ⟨y8, y9, hM9⟩ := HM1.out.put HS9 hg hq2w
                          have HM9 := Lib.hid hM9
                          clear hg ho hv hM9 HM1 HU1 HN1 HS9 hHeld ho1 ho2 hv0 hlr
                          go_wp2_with fail
                          refine hK.out _ _ (fun h => absurd h (by simp)) ?_
                          clear hK K
                          (try simp only [Act.put, List.getElem_toArray, List.getElem_cons_succ, List.getElem_cons_zero, List.setIfInBounds_toArray, List.set_cons_zero, List.set_cons_succ])
                          refine wpAnyG_ready (rs := [8]) (by kernel_rfl) (by simp) ?_
                          refine (AllReadyG.cons rfl (fun K hK => ?_) AllReadyG.nil)
                          go_simp
                          go_wp2_with fail
                          refine hK.out _ _ (fun h => absurd h (by simp)) ?_
                          clear hK K
                          (try simp only [Act.put, List.getElem_toArray, List.getElem_cons_succ, List.getElem_cons_zero, List.setIfInBounds_toArray, List.set_cons_zero, List.set_cons_succ])
                          refine wpAnyG_ready (rs := [9]) (by kernel_rfl) (by simp) ?_
                          refine (AllReadyG.cons rfl (fun K hK => ?_) AllReadyG.nil)
                          go_simp
                          go_wp2_with fail
                          refine hK.out _ _ (fun h => absurd h (by simp)) ?_
                          clear hK K
                          (try simp only [Act.put, List.getElem_toArray, List.getElem_cons_succ, List.getElem_cons_zero, List.setIfInBounds_toArray, List.set_cons_zero, List.set_cons_succ])
                          clear y8 y9
                          refine wpAnyG_done (by kernel_rfl) ?_ _
                          go_wp2_with fail
                          exact ⟨⟨k + 1, by go_num, by omega, Lib.hid ⟨_, HM9.out⟩⟩, by simp [intOf] <;> omega⟩
                    · obtain rfl : k = 15 := by omega
                      obtain ⟨v, hM⟩ := HM.out
                      obtain ⟨A, c, rfl, hL⟩ := hM.lsOf (by omega)
                      have HB := Lib.hid hM.bw
                      have HM6 := Lib.hid hM.b6
                      have HLL := Lib.hid hL
                      clear hM HM hL
                      go_wp2_with fail
                      as_aux_lemma =>
                      refine (works_any _).mono ?_
                      rintro e wz ⟨rfl, hbz⟩
                      obtain ⟨c0, c1, c2⟩ := bat_block (blk_bel HM6.out hbz)
                      have hLz := HLL.out.below hbz
                      have HBz := Lib.hid (nx HB.out hbz)
                      clear hbz HB HM6 HLL
                      go_wp2_with fail
                      refine (batCheck_any (b := ⟨1, 2, List.replicate 16 chS⟩) hLz).mono ?_
                      rw [btP_yes many_yes]
                      rintro e wy ⟨rfl, hby⟩
                      have HBy := Lib.hid (nx HBz.out hby)
                      clear hby HBz hLz c0 c1 c2
                      go_wp2_with fail
                      go_ret
                      exact ⟨rfl, HBy.out⟩
end Go.Proofs.Ytbhfbpaaghpadaa
