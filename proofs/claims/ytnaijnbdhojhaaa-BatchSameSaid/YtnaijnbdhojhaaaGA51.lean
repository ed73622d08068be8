/- The walk of the law BatchSame. No conditions. -/
import Derived.Test.YtnaijnbdhojhaaaGA45
import Derived.Test.YtnaijnbdhojhaaaGA01
import Derived.Test.YtnaijnbdhojhaaaGA49
set_option linter.unusedSimpArgs false
set_option linter.unusedVariables false
namespace Go.Proofs.Ytnaijnbdhojhaaa
open Go.RowKit

set_option maxHeartbeats 16000000 in
set_option maxRecDepth 100000 in
theorem batchSame_walk (a : Bat) (A : Option Addr) (c : Nat) (b : Bat) (B : Option Addr) (d : Nat) (w : World) (h1 : I64 a.ag) (h2 : I64 a.sq) (hL : LS w A a.sp.length c a.sp) (hs : ∀ s ∈ a.sp, SpnOk s) (hn : a.sp.length * 112 ≤ 140737488351232)
    (h1' : I64 b.ag) (h2' : I64 b.sq) (hL' : LS w B b.sp.length d b.sp) (hs' : ∀ s ∈ b.sp, SpnOk s) (hn' : b.sp.length * 112 ≤ 140737488351232) :
    Calls Try.prog 8 #[.agg #[.int .i64 a.ag, .int .i64 a.sq, .slice A a.sp.length c], .agg #[.int .i64 b.ag, .int .i64 b.sq, .slice B b.sp.length d]] w fun e w' => e = .returned (.bool true) ∧ Below w.heap.size w w' := by
  have HPA := Lib.hid (show PtB a from hL.pt)
  have HPB := Lib.hid (show PtB b from hL'.pt)
  have HA := Lib.hid hL
  have HB := Lib.hid hL'
  clear h1 h2 hL hs hn h1' h2' hL' hs' hn'
  generalize hnn : a.sp.length = n at *
  generalize hmm : b.sp.length = m at *
  clear hnn hmm
  have hw1 := bel1 w (.cells #[.int .i64 a.ag, .int .i64 a.sq, .slice A n c] 26)
  have hq1 := heap_alloc_new w (.cells #[.int .i64 a.ag, .int .i64 a.sq, .slice A n c] 26)
  have hw2 := bel1 (w.alloc (.cells #[.int .i64 a.ag, .int .i64 a.sq, .slice A n c] 26)) (.cells #[.int .i64 b.ag, .int .i64 b.sq, .slice B m d] 26)
  have hq2 := heap_alloc_new (w.alloc (.cells #[.int .i64 a.ag, .int .i64 a.sq, .slice A n c] 26)) (.cells #[.int .i64 b.ag, .int .i64 b.sq, .slice B m d] 26)
  rw [World.size_alloc] at hq2
  have X0 := Lib.hid (blk_below hq1 hw2)
  have Y0 := Lib.hid hq2
  have HW := Lib.hid (nx hw1 hw2)
  have A0 := Lib.hid (HA.out.below HW.out)
  have B0 := Lib.hid (HB.out.below HW.out)
  clear hw1 hq1 hw2 hq2 HA HB
  go_enter Try.func8, Try.ntmps8
  go_wp2_with fail
  obtain ⟨W0, hW⟩ : ∃ W, W = (w.alloc (.cells #[.int .i64 a.ag, .int .i64 a.sq, .slice A n c] 26)).alloc (.cells #[.int .i64 b.ag, .int .i64 b.sq, .slice B m d] 26) := ⟨_, rfl⟩
  rw [← hW] at X0 Y0 HW A0 B0 ⊢
  clear hW
  obtain ⟨q2, hqq⟩ : ∃ q, q = w.heap.size + 1 := ⟨_, rfl⟩
  rw [← hqq] at Y0 ⊢
  clear hqq
  obtain ⟨q1, hqq⟩ : ∃ q, q = w.heap.size := ⟨_, rfl⟩
  rw [← hqq] at X0 ⊢
  clear hqq
  by_cases he : a = b
  · have HE := Lib.hid he
    clear he
    by_cases ho : OkB b
    · have HOb := Lib.hid ho
      have HOa := Lib.hid (show OkB a by rw [HE.out]; exact ho)
      clear ho
      refine (works_any _).mono ?_
      rintro e w1 ⟨rfl, hb1⟩
      have A_1 := Lib.hid (A0.out.below hb1)
      have B_1 := Lib.hid (B0.out.below hb1)
      have X_1 := Lib.hid (blk_below X0.out hb1)
      have Y_1 := Lib.hid (blk_below Y0.out hb1)
      have hbw1 := nx HW.out hb1
      clear A0 B0 X0 Y0
      obtain ⟨d0, d1, d2⟩ := bat_block X_1.out
      have dq := (Array.getElem?_eq_some_iff.1 X_1.out).1
      obtain ⟨g0, g1, g2⟩ := bat_block Y_1.out
      have gq := (Array.getElem?_eq_some_iff.1 Y_1.out).1
      go_wp2_with fail
      refine (batSame_any (a := a) (b := b) A_1.out B_1.out).mono ?_
      rintro e w2 ⟨bb, rfl, hbb, hb2⟩
      have hbt := hbb.2 HE.out
      subst hbt
      clear hbb
      have A_2 := Lib.hid (A_1.out.below hb2)
      have B_2 := Lib.hid (B_1.out.below hb2)
      have X_2 := Lib.hid (blk_below X_1.out hb2)
      have Y_2 := Lib.hid (blk_below Y_1.out hb2)
      have hbw2 := nx hbw1 hb2
      clear A_1 B_1 X_1 Y_1
      clear d0 d1 d2 dq g0 g1 g2 gq
      obtain ⟨d0, d1, d2⟩ := bat_block X_2.out
      have dq := (Array.getElem?_eq_some_iff.1 X_2.out).1
      obtain ⟨g0, g1, g2⟩ := bat_block Y_2.out
      have gq := (Array.getElem?_eq_some_iff.1 Y_2.out).1
      go_wp2_with fail
      refine (batBytes_any (b := a) A_2.out).mono ?_
      rw [btP_yes HOa.out]
      intro e w3 hh
      obtain ⟨A1, n1, c1, rfl, hB, hb3⟩ := hh.open (btB_byt HOa.out.1 HPA.out) (by have := HOa.out.2; show (btB a).length ≤ _; omega)
      have A_3 := Lib.hid (A_2.out.below hb3)
      have B_3 := Lib.hid (B_2.out.below hb3)
      have X_3 := Lib.hid (blk_below X_2.out hb3)
      have Y_3 := Lib.hid (blk_below Y_2.out hb3)
      have hbw3 := nx hbw2 hb3
      clear A_2 B_2 X_2 Y_2 hh
      have B1_3 := Lib.hid (hB)
      clear hB
      clear d0 d1 d2 dq g0 g1 g2 gq
      obtain ⟨d0, d1, d2⟩ := bat_block X_3.out
      have dq := (Array.getElem?_eq_some_iff.1 X_3.out).1
      obtain ⟨g0, g1, g2⟩ := bat_block Y_3.out
      have gq := (Array.getElem?_eq_some_iff.1 Y_3.out).1
      go_wp2_with fail
      refine (batBytes_any (b := b) B_3.out).mono ?_
      rw [btP_yes HOb.out]
      intro e w4 hh
      obtain ⟨A2, n2, c2, rfl, hB, hb4⟩ := hh.open (btB_byt HOb.out.1 HPB.out) (by have := HOb.out.2; show (btB b).length ≤ _; omega)
      have A_4 := Lib.hid (A_3.out.below hb4)
      have B_4 := Lib.hid (B_3.out.below hb4)
      have X_4 := Lib.hid (blk_below X_3.out hb4)
      have Y_4 := Lib.hid (blk_below Y_3.out hb4)
      have B1_4 := Lib.hid (B1_3.out.below hb4)
      have hbw4 := nx hbw3 hb4
      clear A_3 B_3 X_3 Y_3 B1_3 hh
      have B2_4 := Lib.hid (hB)
      clear hB
      clear d0 d1 d2 dq g0 g1 g2 gq
      obtain ⟨d0, d1, d2⟩ := bat_block X_4.out
      have dq := (Array.getElem?_eq_some_iff.1 X_4.out).1
      obtain ⟨g0, g1, g2⟩ := bat_block Y_4.out
      have gq := (Array.getElem?_eq_some_iff.1 Y_4.out).1
      go_wp2_with fail
      refine (batSame_any (a := a) (b := a) A_4.out A_4.out).mono ?_
      rintro e w5 ⟨bb, rfl, hbb, hb5⟩
      have hbt := hbb.2 rfl
      subst hbt
      clear hbb
      have A_5 := Lib.hid (A_4.out.below hb5)
      have B_5 := Lib.hid (B_4.out.below hb5)
      have X_5 := Lib.hid (blk_below X_4.out hb5)
      have Y_5 := Lib.hid (blk_below Y_4.out hb5)
      have B1_5 := Lib.hid (B1_4.out.below hb5)
      have B2_5 := Lib.hid (B2_4.out.below hb5)
      have hbw5 := nx hbw4 hb5
      clear A_4 B_4 X_4 Y_4 B1_4 B2_4
      clear d0 d1 d2 dq g0 g1 g2 gq
      obtain ⟨d0, d1, d2⟩ := bat_block X_5.out
      have dq := (Array.getElem?_eq_some_iff.1 X_5.out).1
      obtain ⟨g0, g1, g2⟩ := bat_block Y_5.out
      have gq := (Array.getElem?_eq_some_iff.1 Y_5.out).1
      go_wp2_with fail
      refine (batSame_any (a := b) (b := a) B_5.out A_5.out).mono ?_
      rintro e w6 ⟨bb, rfl, hbb, hb6⟩
      have hbt := hbb.2 HE.out.symm
      subst hbt
      clear hbb
      have A_6 := Lib.hid (A_5.out.below hb6)
      have B_6 := Lib.hid (B_5.out.below hb6)
      have X_6 := Lib.hid (blk_below X_5.out hb6)
      have Y_6 := Lib.hid (blk_below Y_5.out hb6)
      have B1_6 := Lib.hid (B1_5.out.below hb6)
      have B2_6 := Lib.hid (B2_5.out.below hb6)
      have hbw6 := nx hbw5 hb6
      clear A_5 B_5 X_5 Y_5 B1_5 B2_5
      clear d0 d1 d2 dq g0 g1 g2 gq
      go_wp2_with fail
      refine (eqBytes_any A1 A2 n1 c1 n2 c2 _ _ _ B1_6.out B2_6.out).mono ?_
      rintro e w7 ⟨rfl, hb7⟩
      rw [show decide (btB a = btB b) = true from decide_eq_true (by rw [HE.out])]
      have A_7 := Lib.hid (A_6.out.below hb7)
      have B_7 := Lib.hid (B_6.out.below hb7)
      have X_7 := Lib.hid (blk_below X_6.out hb7)
      have Y_7 := Lib.hid (blk_below Y_6.out hb7)
      have B1_7 := Lib.hid (B1_6.out.below hb7)
      have B2_7 := Lib.hid (B2_6.out.below hb7)
      have hbw7 := nx hbw6 hb7
      clear A_6 B_6 X_6 Y_6 B1_6 B2_6
      go_wp2_with fail
      go_ret
      exact ⟨rfl, hbw7⟩
    · have HOb := Lib.hid ho
      have HOa := Lib.hid (show ¬ OkB a by rw [HE.out]; exact ho)
      clear ho
      refine (works_any _).mono ?_
      rintro e w1 ⟨rfl, hb1⟩
      have A_1 := Lib.hid (A0.out.below hb1)
      have B_1 := Lib.hid (B0.out.below hb1)
      have X_1 := Lib.hid (blk_below X0.out hb1)
      have Y_1 := Lib.hid (blk_below Y0.out hb1)
      have hbw1 := nx HW.out hb1
      clear A0 B0 X0 Y0
      obtain ⟨d0, d1, d2⟩ := bat_block X_1.out
      have dq := (Array.getElem?_eq_some_iff.1 X_1.out).1
      obtain ⟨g0, g1, g2⟩ := bat_block Y_1.out
      have gq := (Array.getElem?_eq_some_iff.1 Y_1.out).1
      go_wp2_with fail
      refine (batSame_any (a := a) (b := b) A_1.out B_1.out).mono ?_
      rintro e w2 ⟨bb, rfl, hbb, hb2⟩
      have hbt := hbb.2 HE.out
      subst hbt
      clear hbb
      have A_2 := Lib.hid (A_1.out.below hb2)
      have B_2 := Lib.hid (B_1.out.below hb2)
      have X_2 := Lib.hid (blk_below X_1.out hb2)
      have Y_2 := Lib.hid (blk_below Y_1.out hb2)
      have hbw2 := nx hbw1 hb2
      clear A_1 B_1 X_1 Y_1
      clear d0 d1 d2 dq g0 g1 g2 gq
      obtain ⟨d0, d1, d2⟩ := bat_block X_2.out
      have dq := (Array.getElem?_eq_some_iff.1 X_2.out).1
      obtain ⟨g0, g1, g2⟩ := bat_block Y_2.out
      have gq := (Array.getElem?_eq_some_iff.1 Y_2.out).1
      go_wp2_with fail
      refine (batBytes_any (b := a) A_2.out).mono ?_
      rw [btP_no HOa.out]
      intro e w3 hh
      obtain ⟨A1, n1, c1, rfl, hB, hb3⟩ := hh.open (by intro x hx; cases hx) (by simp)
      have A_3 := Lib.hid (A_2.out.below hb3)
      have B_3 := Lib.hid (B_2.out.below hb3)
      have X_3 := Lib.hid (blk_below X_2.out hb3)
      have Y_3 := Lib.hid (blk_below Y_2.out hb3)
      have hbw3 := nx hbw2 hb3
      clear A_2 B_2 X_2 Y_2 hh
      have B1_3 := Lib.hid (hB)
      clear hB
      clear d0 d1 d2 dq g0 g1 g2 gq
      obtain ⟨d0, d1, d2⟩ := bat_block X_3.out
      have dq := (Array.getElem?_eq_some_iff.1 X_3.out).1
      obtain ⟨g0, g1, g2⟩ := bat_block Y_3.out
      have gq := (Array.getElem?_eq_some_iff.1 Y_3.out).1
      go_wp2_with fail
      refine (batBytes_any (b := b) B_3.out).mono ?_
      rw [btP_no HOb.out]
      intro e w4 hh
      obtain ⟨A2, n2, c2, rfl, hB, hb4⟩ := hh.open (by intro x hx; cases hx) (by simp)
      have A_4 := Lib.hid (A_3.out.below hb4)
      have B_4 := Lib.hid (B_3.out.below hb4)
      have X_4 := Lib.hid (blk_below X_3.out hb4)
      have Y_4 := Lib.hid (blk_below Y_3.out hb4)
      have B1_4 := Lib.hid (B1_3.out.below hb4)
      have hbw4 := nx hbw3 hb4
      clear A_3 B_3 X_3 Y_3 B1_3 hh
      have B2_4 := Lib.hid (hB)
      clear hB
      clear d0 d1 d2 dq g0 g1 g2 gq
      obtain ⟨d0, d1, d2⟩ := bat_block X_4.out
      have dq := (Array.getElem?_eq_some_iff.1 X_4.out).1
      obtain ⟨g0, g1, g2⟩ := bat_block Y_4.out
      have gq := (Array.getElem?_eq_some_iff.1 Y_4.out).1
      go_wp2_with fail
      refine (batSame_any (a := a) (b := a) A_4.out A_4.out).mono ?_
      rintro e w5 ⟨bb, rfl, hbb, hb5⟩
      have hbt := hbb.2 rfl
      subst hbt
      clear hbb
      have A_5 := Lib.hid (A_4.out.below hb5)
      have B_5 := Lib.hid (B_4.out.below hb5)
      have X_5 := Lib.hid (blk_below X_4.out hb5)
      have Y_5 := Lib.hid (blk_below Y_4.out hb5)
      have B1_5 := Lib.hid (B1_4.out.below hb5)
      have B2_5 := Lib.hid (B2_4.out.below hb5)
      have hbw5 := nx hbw4 hb5
      clear A_4 B_4 X_4 Y_4 B1_4 B2_4
      clear d0 d1 d2 dq g0 g1 g2 gq
      obtain ⟨d0, d1, d2⟩ := bat_block X_5.out
      have dq := (Array.getElem?_eq_some_iff.1 X_5.out).1
      obtain ⟨g0, g1, g2⟩ := bat_block Y_5.out
      have gq := (Array.getElem?_eq_some_iff.1 Y_5.out).1
      go_wp2_with fail
      refine (batSame_any (a := b) (b := a) B_5.out A_5.out).mono ?_
      rintro e w6 ⟨bb, rfl, hbb, hb6⟩
      have hbt := hbb.2 HE.out.symm
      subst hbt
      clear hbb
      have A_6 := Lib.hid (A_5.out.below hb6)
      have B_6 := Lib.hid (B_5.out.below hb6)
      have X_6 := Lib.hid (blk_below X_5.out hb6)
      have Y_6 := Lib.hid (blk_below Y_5.out hb6)
      have B1_6 := Lib.hid (B1_5.out.below hb6)
      have B2_6 := Lib.hid (B2_5.out.below hb6)
      have hbw6 := nx hbw5 hb6
      clear A_5 B_5 X_5 Y_5 B1_5 B2_5
      clear d0 d1 d2 dq g0 g1 g2 gq
      go_wp2_with fail
      go_ret
      exact ⟨rfl, hbw6⟩
  · have HE := Lib.hid he
    clear he
    by_cases ho : OkB a
    · have HOa := Lib.hid ho
      clear ho
      by_cases ho : OkB b
      · have HOb := Lib.hid ho
        clear ho
        refine (works_any _).mono ?_
        rintro e w1 ⟨rfl, hb1⟩
        have A_1 := Lib.hid (A0.out.below hb1)
        have B_1 := Lib.hid (B0.out.below hb1)
        have X_1 := Lib.hid (blk_below X0.out hb1)
        have Y_1 := Lib.hid (blk_below Y0.out hb1)
        have hbw1 := nx HW.out hb1
        clear A0 B0 X0 Y0
        obtain ⟨d0, d1, d2⟩ := bat_block X_1.out
        have dq := (Array.getElem?_eq_some_iff.1 X_1.out).1
        obtain ⟨g0, g1, g2⟩ := bat_block Y_1.out
        have gq := (Array.getElem?_eq_some_iff.1 Y_1.out).1
        go_wp2_with fail
        refine (batSame_any (a := a) (b := b) A_1.out B_1.out).mono ?_
        rintro e w2 ⟨bb, rfl, hbb, hb2⟩
        have hbf : bb = false := by cases bb with | false => rfl | true => exact absurd (hbb.1 rfl) HE.out
        subst hbf
        clear hbb
        have A_2 := Lib.hid (A_1.out.below hb2)
        have B_2 := Lib.hid (B_1.out.below hb2)
        have X_2 := Lib.hid (blk_below X_1.out hb2)
        have Y_2 := Lib.hid (blk_below Y_1.out hb2)
        have hbw2 := nx hbw1 hb2
        clear A_1 B_1 X_1 Y_1
        clear d0 d1 d2 dq g0 g1 g2 gq
        obtain ⟨d0, d1, d2⟩ := bat_block X_2.out
        have dq := (Array.getElem?_eq_some_iff.1 X_2.out).1
        obtain ⟨g0, g1, g2⟩ := bat_block Y_2.out
        have gq := (Array.getElem?_eq_some_iff.1 Y_2.out).1
        go_wp2_with fail
        refine (batBytes_any (b := a) A_2.out).mono ?_
        rw [btP_yes HOa.out]
        intro e w3 hh
        obtain ⟨A1, n1, c1, rfl, hB, hb3⟩ := hh.open (btB_byt HOa.out.1 HPA.out) (by have := HOa.out.2; show (btB a).length ≤ _; omega)
        have A_3 := Lib.hid (A_2.out.below hb3)
        have B_3 := Lib.hid (B_2.out.below hb3)
        have X_3 := Lib.hid (blk_below X_2.out hb3)
        have Y_3 := Lib.hid (blk_below Y_2.out hb3)
        have hbw3 := nx hbw2 hb3
        clear A_2 B_2 X_2 Y_2 hh
        have B1_3 := Lib.hid (hB)
        clear hB
        clear d0 d1 d2 dq g0 g1 g2 gq
        obtain ⟨d0, d1, d2⟩ := bat_block X_3.out
        have dq := (Array.getElem?_eq_some_iff.1 X_3.out).1
        obtain ⟨g0, g1, g2⟩ := bat_block Y_3.out
        have gq := (Array.getElem?_eq_some_iff.1 Y_3.out).1
        go_wp2_with fail
        refine (batBytes_any (b := b) B_3.out).mono ?_
        rw [btP_yes HOb.out]
        intro e w4 hh
        obtain ⟨A2, n2, c2, rfl, hB, hb4⟩ := hh.open (btB_byt HOb.out.1 HPB.out) (by have := HOb.out.2; show (btB b).length ≤ _; omega)
        have A_4 := Lib.hid (A_3.out.below hb4)
        have B_4 := Lib.hid (B_3.out.below hb4)
        have X_4 := Lib.hid (blk_below X_3.out hb4)
        have Y_4 := Lib.hid (blk_below Y_3.out hb4)
        have B1_4 := Lib.hid (B1_3.out.below hb4)
        have hbw4 := nx hbw3 hb4
        clear A_3 B_3 X_3 Y_3 B1_3 hh
        have B2_4 := Lib.hid (hB)
        clear hB
        clear d0 d1 d2 dq g0 g1 g2 gq
        obtain ⟨d0, d1, d2⟩ := bat_block X_4.out
        have dq := (Array.getElem?_eq_some_iff.1 X_4.out).1
        obtain ⟨g0, g1, g2⟩ := bat_block Y_4.out
        have gq := (Array.getElem?_eq_some_iff.1 Y_4.out).1
        go_wp2_with fail
        refine (batSame_any (a := a) (b := a) A_4.out A_4.out).mono ?_
        rintro e w5 ⟨bb, rfl, hbb, hb5⟩
        have hbt := hbb.2 rfl
        subst hbt
        clear hbb
        have A_5 := Lib.hid (A_4.out.below hb5)
        have B_5 := Lib.hid (B_4.out.below hb5)
        have X_5 := Lib.hid (blk_below X_4.out hb5)
        have Y_5 := Lib.hid (blk_below Y_4.out hb5)
        have B1_5 := Lib.hid (B1_4.out.below hb5)
        have B2_5 := Lib.hid (B2_4.out.below hb5)
        have hbw5 := nx hbw4 hb5
        clear A_4 B_4 X_4 Y_4 B1_4 B2_4
        clear d0 d1 d2 dq g0 g1 g2 gq
        obtain ⟨d0, d1, d2⟩ := bat_block X_5.out
        have dq := (Array.getElem?_eq_some_iff.1 X_5.out).1
        obtain ⟨g0, g1, g2⟩ := bat_block Y_5.out
        have gq := (Array.getElem?_eq_some_iff.1 Y_5.out).1
        go_wp2_with fail
        refine (batSame_any (a := b) (b := a) B_5.out A_5.out).mono ?_
        rintro e w6 ⟨bb, rfl, hbb, hb6⟩
        have hbf : bb = false := by cases bb with | false => rfl | true => exact absurd (hbb.1 rfl) (fun e => HE.out e.symm)
        subst hbf
        clear hbb
        have A_6 := Lib.hid (A_5.out.below hb6)
        have B_6 := Lib.hid (B_5.out.below hb6)
        have X_6 := Lib.hid (blk_below X_5.out hb6)
        have Y_6 := Lib.hid (blk_below Y_5.out hb6)
        have B1_6 := Lib.hid (B1_5.out.below hb6)
        have B2_6 := Lib.hid (B2_5.out.below hb6)
        have hbw6 := nx hbw5 hb6
        clear A_5 B_5 X_5 Y_5 B1_5 B2_5
        clear d0 d1 d2 dq g0 g1 g2 gq
        go_wp2_with fail
        refine (eqBytes_any A1 A2 n1 c1 n2 c2 _ _ _ B1_6.out B2_6.out).mono ?_
        rintro e w7 ⟨rfl, hb7⟩
        rw [show decide (btB a = btB b) = false from decide_eq_false (fun e => HE.out (btB_inj HOa.out.1 HOb.out.1 HPA.out HPB.out e))]
        have A_7 := Lib.hid (A_6.out.below hb7)
        have B_7 := Lib.hid (B_6.out.below hb7)
        have X_7 := Lib.hid (blk_below X_6.out hb7)
        have Y_7 := Lib.hid (blk_below Y_6.out hb7)
        have B1_7 := Lib.hid (B1_6.out.below hb7)
        have B2_7 := Lib.hid (B2_6.out.below hb7)
        have hbw7 := nx hbw6 hb7
        clear A_6 B_6 X_6 Y_6 B1_6 B2_6
        go_wp2_with fail
        go_ret
        exact ⟨rfl, hbw7⟩
      · have HOb := Lib.hid ho
        clear ho
        refine (works_any _).mono ?_
        rintro e w1 ⟨rfl, hb1⟩
        have A_1 := Lib.hid (A0.out.below hb1)
        have B_1 := Lib.hid (B0.out.below hb1)
        have X_1 := Lib.hid (blk_below X0.out hb1)
        have Y_1 := Lib.hid (blk_below Y0.out hb1)
        have hbw1 := nx HW.out hb1
        clear A0 B0 X0 Y0
        obtain ⟨d0, d1, d2⟩ := bat_block X_1.out
        have dq := (Array.getElem?_eq_some_iff.1 X_1.out).1
        obtain ⟨g0, g1, g2⟩ := bat_block Y_1.out
        have gq := (Array.getElem?_eq_some_iff.1 Y_1.out).1
        go_wp2_with fail
        refine (batSame_any (a := a) (b := b) A_1.out B_1.out).mono ?_
        rintro e w2 ⟨bb, rfl, hbb, hb2⟩
        have hbf : bb = false := by cases bb with | false => rfl | true => exact absurd (hbb.1 rfl) HE.out
        subst hbf
        clear hbb
        have A_2 := Lib.hid (A_1.out.below hb2)
        have B_2 := Lib.hid (B_1.out.below hb2)
        have X_2 := Lib.hid (blk_below X_1.out hb2)
        have Y_2 := Lib.hid (blk_below Y_1.out hb2)
        have hbw2 := nx hbw1 hb2
        clear A_1 B_1 X_1 Y_1
        clear d0 d1 d2 dq g0 g1 g2 gq
        obtain ⟨d0, d1, d2⟩ := bat_block X_2.out
        have dq := (Array.getElem?_eq_some_iff.1 X_2.out).1
        obtain ⟨g0, g1, g2⟩ := bat_block Y_2.out
        have gq := (Array.getElem?_eq_some_iff.1 Y_2.out).1
        go_wp2_with fail
        refine (batBytes_any (b := a) A_2.out).mono ?_
        rw [btP_yes HOa.out]
        intro e w3 hh
        obtain ⟨A1, n1, c1, rfl, hB, hb3⟩ := hh.open (btB_byt HOa.out.1 HPA.out) (by have := HOa.out.2; show (btB a).length ≤ _; omega)
        have A_3 := Lib.hid (A_2.out.below hb3)
        have B_3 := Lib.hid (B_2.out.below hb3)
        have X_3 := Lib.hid (blk_below X_2.out hb3)
        have Y_3 := Lib.hid (blk_below Y_2.out hb3)
        have hbw3 := nx hbw2 hb3
        clear A_2 B_2 X_2 Y_2 hh
        have B1_3 := Lib.hid (hB)
        clear hB
        clear d0 d1 d2 dq g0 g1 g2 gq
        obtain ⟨d0, d1, d2⟩ := bat_block X_3.out
        have dq := (Array.getElem?_eq_some_iff.1 X_3.out).1
        obtain ⟨g0, g1, g2⟩ := bat_block Y_3.out
        have gq := (Array.getElem?_eq_some_iff.1 Y_3.out).1
        go_wp2_with fail
        refine (batBytes_any (b := b) B_3.out).mono ?_
        rw [btP_no HOb.out]
        intro e w4 hh
        obtain ⟨A2, n2, c2, rfl, hB, hb4⟩ := hh.open (by intro x hx; cases hx) (by simp)
        have A_4 := Lib.hid (A_3.out.below hb4)
        have B_4 := Lib.hid (B_3.out.below hb4)
        have X_4 := Lib.hid (blk_below X_3.out hb4)
        have Y_4 := Lib.hid (blk_below Y_3.out hb4)
        have B1_4 := Lib.hid (B1_3.out.below hb4)
        have hbw4 := nx hbw3 hb4
        clear A_3 B_3 X_3 Y_3 B1_3 hh
        have B2_4 := Lib.hid (hB)
        clear hB
        clear d0 d1 d2 dq g0 g1 g2 gq
        obtain ⟨d0, d1, d2⟩ := bat_block X_4.out
        have dq := (Array.getElem?_eq_some_iff.1 X_4.out).1
        obtain ⟨g0, g1, g2⟩ := bat_block Y_4.out
        have gq := (Array.getElem?_eq_some_iff.1 Y_4.out).1
        go_wp2_with fail
        refine (batSame_any (a := a) (b := a) A_4.out A_4.out).mono ?_
        rintro e w5 ⟨bb, rfl, hbb, hb5⟩
        have hbt := hbb.2 rfl
        subst hbt
        clear hbb
        have A_5 := Lib.hid (A_4.out.below hb5)
        have B_5 := Lib.hid (B_4.out.below hb5)
        have X_5 := Lib.hid (blk_below X_4.out hb5)
        have Y_5 := Lib.hid (blk_below Y_4.out hb5)
        have B1_5 := Lib.hid (B1_4.out.below hb5)
        have B2_5 := Lib.hid (B2_4.out.below hb5)
        have hbw5 := nx hbw4 hb5
        clear A_4 B_4 X_4 Y_4 B1_4 B2_4
        clear d0 d1 d2 dq g0 g1 g2 gq
        obtain ⟨d0, d1, d2⟩ := bat_block X_5.out
        have dq := (Array.getElem?_eq_some_iff.1 X_5.out).1
        obtain ⟨g0, g1, g2⟩ := bat_block Y_5.out
        have gq := (Array.getElem?_eq_some_iff.1 Y_5.out).1
        go_wp2_with fail
        refine (batSame_any (a := b) (b := a) B_5.out A_5.out).mono ?_
        rintro e w6 ⟨bb, rfl, hbb, hb6⟩
        have hbf : bb = false := by cases bb with | false => rfl | true => exact absurd (hbb.1 rfl) (fun e => HE.out e.symm)
        subst hbf
        clear hbb
        have A_6 := Lib.hid (A_5.out.below hb6)
        have B_6 := Lib.hid (B_5.out.below hb6)
        have X_6 := Lib.hid (blk_below X_5.out hb6)
        have Y_6 := Lib.hid (blk_below Y_5.out hb6)
        have B1_6 := Lib.hid (B1_5.out.below hb6)
        have B2_6 := Lib.hid (B2_5.out.below hb6)
        have hbw6 := nx hbw5 hb6
        clear A_5 B_5 X_5 Y_5 B1_5 B2_5
        clear d0 d1 d2 dq g0 g1 g2 gq
        go_wp2_with fail
        go_ret
        exact ⟨rfl, hbw6⟩
    · have HOa := Lib.hid ho
      clear ho
      by_cases ho : OkB b
      · have HOb := Lib.hid ho
        clear ho
        refine (works_any _).mono ?_
        rintro e w1 ⟨rfl, hb1⟩
        have A_1 := Lib.hid (A0.out.below hb1)
        have B_1 := Lib.hid (B0.out.below hb1)
        have X_1 := Lib.hid (blk_below X0.out hb1)
        have Y_1 := Lib.hid (blk_below Y0.out hb1)
        have hbw1 := nx HW.out hb1
        clear A0 B0 X0 Y0
        obtain ⟨d0, d1, d2⟩ := bat_block X_1.out
        have dq := (Array.getElem?_eq_some_iff.1 X_1.out).1
        obtain ⟨g0, g1, g2⟩ := bat_block Y_1.out
        have gq := (Array.getElem?_eq_some_iff.1 Y_1.out).1
        go_wp2_with fail
        refine (batSame_any (a := a) (b := b) A_1.out B_1.out).mono ?_
        rintro e w2 ⟨bb, rfl, hbb, hb2⟩
        have hbf : bb = false := by cases bb with | false => rfl | true => exact absurd (hbb.1 rfl) HE.out
        subst hbf
        clear hbb
        have A_2 := Lib.hid (A_1.out.below hb2)
        have B_2 := Lib.hid (B_1.out.below hb2)
        have X_2 := Lib.hid (blk_below X_1.out hb2)
        have Y_2 := Lib.hid (blk_below Y_1.out hb2)
        have hbw2 := nx hbw1 hb2
        clear A_1 B_1 X_1 Y_1
        clear d0 d1 d2 dq g0 g1 g2 gq
        obtain ⟨d0, d1, d2⟩ := bat_block X_2.out
        have dq := (Array.getElem?_eq_some_iff.1 X_2.out).1
        obtain ⟨g0, g1, g2⟩ := bat_block Y_2.out
        have gq := (Array.getElem?_eq_some_iff.1 Y_2.out).1
        go_wp2_with fail
        refine (batBytes_any (b := a) A_2.out).mono ?_
        rw [btP_no HOa.out]
        intro e w3 hh
        obtain ⟨A1, n1, c1, rfl, hB, hb3⟩ := hh.open (by intro x hx; cases hx) (by simp)
        have A_3 := Lib.hid (A_2.out.below hb3)
        have B_3 := Lib.hid (B_2.out.below hb3)
        have X_3 := Lib.hid (blk_below X_2.out hb3)
        have Y_3 := Lib.hid (blk_below Y_2.out hb3)
        have hbw3 := nx hbw2 hb3
        clear A_2 B_2 X_2 Y_2 hh
        have B1_3 := Lib.hid (hB)
        clear hB
        clear d0 d1 d2 dq g0 g1 g2 gq
        obtain ⟨d0, d1, d2⟩ := bat_block X_3.out
        have dq := (Array.getElem?_eq_some_iff.1 X_3.out).1
        obtain ⟨g0, g1, g2⟩ := bat_block Y_3.out
        have gq := (Array.getElem?_eq_some_iff.1 Y_3.out).1
        go_wp2_with fail
        refine (batBytes_any (b := b) B_3.out).mono ?_
        rw [btP_yes HOb.out]
        intro e w4 hh
        obtain ⟨A2, n2, c2, rfl, hB, hb4⟩ := hh.open (btB_byt HOb.out.1 HPB.out) (by have := HOb.out.2; show (btB b).length ≤ _; omega)
        have A_4 := Lib.hid (A_3.out.below hb4)
        have B_4 := Lib.hid (B_3.out.below hb4)
        have X_4 := Lib.hid (blk_below X_3.out hb4)
        have Y_4 := Lib.hid (blk_below Y_3.out hb4)
        have B1_4 := Lib.hid (B1_3.out.below hb4)
        have hbw4 := nx hbw3 hb4
        clear A_3 B_3 X_3 Y_3 B1_3 hh
        have B2_4 := Lib.hid (hB)
        clear hB
        clear d0 d1 d2 dq g0 g1 g2 gq
        obtain ⟨d0, d1, d2⟩ := bat_block X_4.out
        have dq := (Array.getElem?_eq_some_iff.1 X_4.out).1
        obtain ⟨g0, g1, g2⟩ := bat_block Y_4.out
        have gq := (Array.getElem?_eq_some_iff.1 Y_4.out).1
        go_wp2_with fail
        refine (batSame_any (a := a) (b := a) A_4.out A_4.out).mono ?_
        rintro e w5 ⟨bb, rfl, hbb, hb5⟩
        have hbt := hbb.2 rfl
        subst hbt
        clear hbb
        have A_5 := Lib.hid (A_4.out.below hb5)
        have B_5 := Lib.hid (B_4.out.below hb5)
        have X_5 := Lib.hid (blk_below X_4.out hb5)
        have Y_5 := Lib.hid (blk_below Y_4.out hb5)
        have B1_5 := Lib.hid (B1_4.out.below hb5)
        have B2_5 := Lib.hid (B2_4.out.below hb5)
        have hbw5 := nx hbw4 hb5
        clear A_4 B_4 X_4 Y_4 B1_4 B2_4
        clear d0 d1 d2 dq g0 g1 g2 gq
        obtain ⟨d0, d1, d2⟩ := bat_block X_5.out
        have dq := (Array.getElem?_eq_some_iff.1 X_5.out).1
        obtain ⟨g0, g1, g2⟩ := bat_block Y_5.out
        have gq := (Array.getElem?_eq_some_iff.1 Y_5.out).1
        go_wp2_with fail
        refine (batSame_any (a := b) (b := a) B_5.out A_5.out).mono ?_
        rintro e w6 ⟨bb, rfl, hbb, hb6⟩
        have hbf : bb = false := by cases bb with | false => rfl | true => exact absurd (hbb.1 rfl) (fun e => HE.out e.symm)
        subst hbf
        clear hbb
        have A_6 := Lib.hid (A_5.out.below hb6)
        have B_6 := Lib.hid (B_5.out.below hb6)
        have X_6 := Lib.hid (blk_below X_5.out hb6)
        have Y_6 := Lib.hid (blk_below Y_5.out hb6)
        have B1_6 := Lib.hid (B1_5.out.below hb6)
        have B2_6 := Lib.hid (B2_5.out.below hb6)
        have hbw6 := nx hbw5 hb6
        clear A_5 B_5 X_5 Y_5 B1_5 B2_5
        clear d0 d1 d2 dq g0 g1 g2 gq
        go_wp2_with fail
        go_ret
        exact ⟨rfl, hbw6⟩
      · have HOb := Lib.hid ho
        clear ho
        refine (works_any _).mono ?_
        rintro e w1 ⟨rfl, hb1⟩
        have A_1 := Lib.hid (A0.out.below hb1)
        have B_1 := Lib.hid (B0.out.below hb1)
        have X_1 := Lib.hid (blk_below X0.out hb1)
        have Y_1 := Lib.hid (blk_below Y0.out hb1)
        have hbw1 := nx HW.out hb1
        clear A0 B0 X0 Y0
        obtain ⟨d0, d1, d2⟩ := bat_block X_1.out
        have dq := (Array.getElem?_eq_some_iff.1 X_1.out).1
        obtain ⟨g0, g1, g2⟩ := bat_block Y_1.out
        have gq := (Array.getElem?_eq_some_iff.1 Y_1.out).1
        go_wp2_with fail
        refine (batSame_any (a := a) (b := b) A_1.out B_1.out).mono ?_
        rintro e w2 ⟨bb, rfl, hbb, hb2⟩
        have hbf : bb = false := by cases bb with | false => rfl | true => exact absurd (hbb.1 rfl) HE.out
        subst hbf
        clear hbb
        have A_2 := Lib.hid (A_1.out.below hb2)
        have B_2 := Lib.hid (B_1.out.below hb2)
        have X_2 := Lib.hid (blk_below X_1.out hb2)
        have Y_2 := Lib.hid (blk_below Y_1.out hb2)
        have hbw2 := nx hbw1 hb2
        clear A_1 B_1 X_1 Y_1
        clear d0 d1 d2 dq g0 g1 g2 gq
        obtain ⟨d0, d1, d2⟩ := bat_block X_2.out
        have dq := (Array.getElem?_eq_some_iff.1 X_2.out).1
        obtain ⟨g0, g1, g2⟩ := bat_block Y_2.out
        have gq := (Array.getElem?_eq_some_iff.1 Y_2.out).1
        go_wp2_with fail
        refine (batBytes_any (b := a) A_2.out).mono ?_
        rw [btP_no HOa.out]
        intro e w3 hh
        obtain ⟨A1, n1, c1, rfl, hB, hb3⟩ := hh.open (by intro x hx; cases hx) (by simp)
        have A_3 := Lib.hid (A_2.out.below hb3)
        have B_3 := Lib.hid (B_2.out.below hb3)
        have X_3 := Lib.hid (blk_below X_2.out hb3)
        have Y_3 := Lib.hid (blk_below Y_2.out hb3)
        have hbw3 := nx hbw2 hb3
        clear A_2 B_2 X_2 Y_2 hh
        have B1_3 := Lib.hid (hB)
        clear hB
        clear d0 d1 d2 dq g0 g1 g2 gq
        obtain ⟨d0, d1, d2⟩ := bat_block X_3.out
        have dq := (Array.getElem?_eq_some_iff.1 X_3.out).1
        obtain ⟨g0, g1, g2⟩ := bat_block Y_3.out
        have gq := (Array.getElem?_eq_some_iff.1 Y_3.out).1
        go_wp2_with fail
        refine (batBytes_any (b := b) B_3.out).mono ?_
        rw [btP_no HOb.out]
        intro e w4 hh
        obtain ⟨A2, n2, c2, rfl, hB, hb4⟩ := hh.open (by intro x hx; cases hx) (by simp)
        have A_4 := Lib.hid (A_3.out.below hb4)
        have B_4 := Lib.hid (B_3.out.below hb4)
        have X_4 := Lib.hid (blk_below X_3.out hb4)
        have Y_4 := Lib.hid (blk_below Y_3.out hb4)
        have B1_4 := Lib.hid (B1_3.out.below hb4)
        have hbw4 := nx hbw3 hb4
        clear A_3 B_3 X_3 Y_3 B1_3 hh
        have B2_4 := Lib.hid (hB)
        clear hB
        clear d0 d1 d2 dq g0 g1 g2 gq
        obtain ⟨d0, d1, d2⟩ := bat_block X_4.out
        have dq := (Array.getElem?_eq_some_iff.1 X_4.out).1
        obtain ⟨g0, g1, g2⟩ := bat_block Y_4.out
        have gq := (Array.getElem?_eq_some_iff.1 Y_4.out).1
        go_wp2_with fail
        refine (batSame_any (a := a) (b := a) A_4.out A_4.out).mono ?_
        rintro e w5 ⟨bb, rfl, hbb, hb5⟩
        have hbt := hbb.2 rfl
        subst hbt
        clear hbb
        have A_5 := Lib.hid (A_4.out.below hb5)
        have B_5 := Lib.hid (B_4.out.below hb5)
        have X_5 := Lib.hid (blk_below X_4.out hb5)
        have Y_5 := Lib.hid (blk_below Y_4.out hb5)
        have B1_5 := Lib.hid (B1_4.out.below hb5)
        have B2_5 := Lib.hid (B2_4.out.below hb5)
        have hbw5 := nx hbw4 hb5
        clear A_4 B_4 X_4 Y_4 B1_4 B2_4
        clear d0 d1 d2 dq g0 g1 g2 gq
        obtain ⟨d0, d1, d2⟩ := bat_block X_5.out
        have dq := (Array.getElem?_eq_some_iff.1 X_5.out).1
        obtain ⟨g0, g1, g2⟩ := bat_block Y_5.out
        have gq := (Array.getElem?_eq_some_iff.1 Y_5.out).1
        go_wp2_with fail
        refine (batSame_any (a := b) (b := a) B_5.out A_5.out).mono ?_
        rintro e w6 ⟨bb, rfl, hbb, hb6⟩
        have hbf : bb = false := by cases bb with | false => rfl | true => exact absurd (hbb.1 rfl) (fun e => HE.out e.symm)
        subst hbf
        clear hbb
        have A_6 := Lib.hid (A_5.out.below hb6)
        have B_6 := Lib.hid (B_5.out.below hb6)
        have X_6 := Lib.hid (blk_below X_5.out hb6)
        have Y_6 := Lib.hid (blk_below Y_5.out hb6)
        have B1_6 := Lib.hid (B1_5.out.below hb6)
        have B2_6 := Lib.hid (B2_5.out.below hb6)
        have hbw6 := nx hbw5 hb6
        clear A_5 B_5 X_5 Y_5 B1_5 B2_5
        clear d0 d1 d2 dq g0 g1 g2 gq
        go_wp2_with fail
        go_ret
        exact ⟨rfl, hbw6⟩
end Go.Proofs.Ytnaijnbdhojhaaa
