/- The walk of the law ReplyBack. No conditions. -/
import Derived.Test.YtfedgjahbmcpoaaGA43
import Derived.Test.YtfedgjahbmcpoaaGA41
import Derived.Test.YtfedgjahbmcpoaaGA47
set_option linter.unusedSimpArgs false
set_option linter.unusedVariables false
namespace Go.Proofs.Ytfedgjahbmcpoaa
open Go.RowKit

set_option maxHeartbeats 32000000 in
set_option maxRecDepth 100000 in
theorem replyBack_walk (a : Ans) (u v x : Value) (w : World) (hL : AnL w a u v x) (ho : AnsOk a) :
    Calls Try.prog 4 #[anV a u v x] w fun e w' => e = .returned (.bool true) ∧ Below w.heap.size w w' := by
  have HLb := Lib.hid hL
  have Hb0 := Lib.hid (hL).sm
  obtain ⟨A0, c0, e1, _⟩ := (hL).sn
  obtain ⟨B0, d0, e2, _⟩ := (hL).ce
  obtain ⟨D0, f0, e3, _⟩ := (hL).ed
  subst e1 e2 e3
  have HSb := Lib.hid (fun (w' : World) (hb : Below w.heap.size w w') => small_any (HLb.out.below hb))
  obtain ⟨b, ha'⟩ : ∃ a', a' = smA a := ⟨_, rfl⟩
  obtain ⟨u1, hu1⟩ : ∃ z, z = cut30 (.slice A0 a.sn.length c0) := ⟨_, rfl⟩
  obtain ⟨u2, hu2⟩ : ∃ z, z = cut30 (.slice B0 a.ce.length d0) := ⟨_, rfl⟩
  obtain ⟨u3, hu3⟩ : ∃ z, z = cut30 (.slice D0 a.ed.length f0) := ⟨_, rfl⟩
  rw [← ha', ← hu1, ← hu2, ← hu3] at Hb0 HSb
  clear ha' hu1 hu2 hu3
  have HPb := Lib.hid Hb0.out.pt
  obtain ⟨A1, c1, e1, _⟩ := Hb0.out.sn
  obtain ⟨B1, d1, e2, _⟩ := Hb0.out.ce
  obtain ⟨D1, f1, e3, _⟩ := Hb0.out.ed
  subst e1 e2 e3
  have Hb := Hb0
  clear Hb0
  unfold anV at HSb
  clear hL ho
  unfold anV
  by_cases hok : OkAn b
  · have HOK := Lib.hid hok
    clear hok
    have HRD := Lib.hid (prAn_to HOK.out HPb.out)
    have HBO := Lib.hid (anB_ok HOK.out HPb.out)
    go_enter Try.func4, Try.ntmps4
    go_upto_region 1 with (fail)
    obtain ⟨W0, hW⟩ : ∃ W, W = w.alloc (.cells #[.int .i64 a.er, .slice A0 a.sn.length c0, .int .i64 a.nx, .slice B0 a.ce.length d0, .slice D0 a.ed.length f0, .int .i64 a.lf] 29) := ⟨_, rfl⟩
    have hbx : Below w.heap.size w W0 := by rw [hW]; exact bel1 _ _
    have hqx := heap_alloc_new w (.cells #[.int .i64 a.er, .slice A0 a.sn.length c0, .int .i64 a.nx, .slice B0 a.ce.length d0, .slice D0 a.ed.length f0, .int .i64 a.lf] 29)
    rw [← hW] at hqx ⊢
    obtain ⟨q1, hqq⟩ : ∃ q, q = w.heap.size := ⟨_, rfl⟩
    rw [← hqq] at hqx ⊢
    have hleq1 : w.heap.size ≤ q1 := Nat.le_of_eq hqq.symm
    clear hW hqq
    have HQ0 := Lib.hid hqx
    have HB0 := Lib.hid hbx
    clear hqx hbx
    go_wp2_with fail
    refine (rworks_any _).mono ?_
    rintro e w1 ⟨rfl, hb⟩
    have HQ1 := Lib.hid (blkB HQ0.out hb)
    have HB1 := Lib.hid (nx HB0.out hb)
    clear hb
    obtain ⟨x0, x1, x2, x3, x4, x5⟩ := an_block HQ1.out
    go_wp2_with fail
    refine (HSb.out _ HB1.out).mono ?_
    rintro e w2 ⟨rfl, hb⟩
    have HQ2 := Lib.hid (blkB HQ1.out hb)
    have HB2 := Lib.hid (nx HB1.out hb)
    clear hb
    clear x0 x1 x2 x3 x4 x5
    obtain ⟨x0, x1, x2, x3, x4, x5⟩ := an_block HQ2.out
    have g0 := frozen_of HQ2.out 0
    have g1 := frozen_of HQ2.out 1
    have g2 := frozen_of HQ2.out 2
    have g3 := frozen_of HQ2.out 3
    have g4 := frozen_of HQ2.out 4
    have g5 := frozen_of HQ2.out 5
    go_wp2_with fail
    obtain ⟨W3, hW⟩ : ∃ W, W = ((((((w2.setCell ⟨q1, 0, none⟩ (.int .i64 b.er)).setCell ⟨q1, 1, none⟩ (.slice A1 b.sn.length c1)).setCell ⟨q1, 2, none⟩ (.int .i64 b.nx)).setCell ⟨q1, 3, none⟩ (.slice B1 b.ce.length d1)).setCell ⟨q1, 4, none⟩ (.slice D1 b.ed.length f1)).setCell ⟨q1, 5, none⟩ (.int .i64 b.lf)) := ⟨_, rfl⟩
    have HQ3 := Lib.hid (show W3.heap[q1]? = some (.cells #[.int .i64 b.er, .slice A1 b.sn.length c1, .int .i64 b.nx, .slice B1 b.ce.length d1, .slice D1 b.ed.length f1, .int .i64 b.lf] 29 (0, 0)) by rw [hW]; exact (heap_set (heap_set (heap_set (heap_set (heap_set (heap_set HQ2.out 0 _) 1 _) 2 _) 3 _) 4 _) 5 _))
    have HB3 := Lib.hid (show Below w.heap.size w W3 by rw [hW]; exact ((((((HB2.out.setCell (p := ⟨q1, 0, none⟩) hleq1 _).setCell (p := ⟨q1, 1, none⟩) hleq1 _).setCell (p := ⟨q1, 2, none⟩) hleq1 _).setCell (p := ⟨q1, 3, none⟩) hleq1 _).setCell (p := ⟨q1, 4, none⟩) hleq1 _).setCell (p := ⟨q1, 5, none⟩) hleq1 _))
    rw [← hW]
    clear hW
    clear g0 g1 g2 g3 g4 g5
    clear x0 x1 x2 x3 x4 x5
    refine (rBytes_any (Hb.out.below HB3.out) HPb.out).mono ?_
    rw [anP_yes HOK.out]
    intro e w4 hh
    obtain ⟨A4, n4, c4, rfl, hB, hb⟩ := hh.open HBO.out.1 (by have := HBO.out.2; show (anB b).length ≤ _; omega)
    have HQ4 := Lib.hid (blkB HQ3.out hb)
    have HB4 := Lib.hid (nx HB3.out hb)
    have BS4 := Lib.hid hB
    clear hh hB hb
    go_wp2_with fail
    refine (rParse_any BS4.out).mono ?_
    rw [HRD.out]
    rintro e w5 ⟨v1, v2, v3, rfl, hA5, hb⟩
    have HQ5 := Lib.hid (blkB HQ4.out hb)
    have HB5 := Lib.hid (nx HB4.out hb)
    clear hb
    obtain ⟨A5, c5, e1, _⟩ := hA5.sn
    obtain ⟨B5, d5, e2, _⟩ := hA5.ce
    obtain ⟨D5, f5, e3, _⟩ := hA5.ed
    subst e1 e2 e3
    have HA5 := Lib.hid hA5
    clear hA5
    unfold anV
    go_upto_region 8 with (fail)
    obtain ⟨W6, hW⟩ : ∃ W, W = w5.alloc (.cells #[.int .i64 b.er, .slice A5 b.sn.length c5, .int .i64 b.nx, .slice B5 b.ce.length d5, .slice D5 b.ed.length f5, .int .i64 b.lf] 29) := ⟨_, rfl⟩
    have hbx : Below w5.heap.size w5 W6 := by rw [hW]; exact bel1 _ _
    have hqx := heap_alloc_new w5 (.cells #[.int .i64 b.er, .slice A5 b.sn.length c5, .int .i64 b.nx, .slice B5 b.ce.length d5, .slice D5 b.ed.length f5, .int .i64 b.lf] 29)
    rw [← hW] at hqx ⊢
    obtain ⟨q2, hqq⟩ : ∃ q, q = w5.heap.size := ⟨_, rfl⟩
    rw [← hqq] at hqx ⊢
    have HA6 := Lib.hid (HA5.out.below hbx)
    have HQ6 := Lib.hid (blkB HQ5.out hbx)
    have HB6 := Lib.hid (nx HB5.out hbx)
    have HR6 := Lib.hid hqx
    clear hW hqq hqx hbx HA5
    obtain ⟨x0, x1, x2, x3, x4, x5⟩ := an_block HQ6.out
    obtain ⟨y0, y1, y2, y3, y4, y5⟩ := an_block HR6.out
    go_wp2_with fail
    refine (rSame_any (a := b) (b := b) (Hb.out.below HB6.out) HA6.out).mono ?_
    rintro e w7 ⟨bb, rfl, hbb, hb⟩
    obtain rfl : bb = true := hbb.2 (by trivial)
    have HA7 := Lib.hid (HA6.out.below hb)
    have HQ7 := Lib.hid (blkB HQ6.out hb)
    have HR7 := Lib.hid (blkB HR6.out hb)
    have HB7 := Lib.hid (nx HB6.out hb)
    clear hb hbb
    clear x0 x1 x2 x3 x4 x5 y0 y1 y2 y3 y4 y5
    obtain ⟨x0, x1, x2, x3, x4, x5⟩ := an_block HQ7.out
    obtain ⟨y0, y1, y2, y3, y4, y5⟩ := an_block HR7.out
    go_wp2_with fail
    refine (refAnSame_any (a := b) (b := b) (Hb.out.below HB7.out) HA7.out).mono ?_
    rintro e w8 ⟨bb, rfl, hbb, hb⟩
    obtain rfl : bb = true := hbb.2 (by trivial)
    have HQ8 := Lib.hid (blkB HQ7.out hb)
    have HB8 := Lib.hid (nx HB7.out hb)
    clear hb hbb
    clear x0 x1 x2 x3 x4 x5 y0 y1 y2 y3 y4 y5
    obtain ⟨x0, x1, x2, x3, x4, x5⟩ := an_block HQ8.out
    go_wp2_with fail
    refine (rCheck_any (Hb.out.below HB8.out)).mono ?_
    rw [anP_yes HOK.out]
    rintro e w9 ⟨rfl, hb⟩
    have HB9 := Lib.hid (nx HB8.out hb)
    clear hb
    clear x0 x1 x2 x3 x4 x5
    go_wp2_with fail
    go_ret
    exact ⟨rfl, HB9.out⟩
  · have HNO := Lib.hid hok
    clear hok
    go_enter Try.func4, Try.ntmps4
    go_upto_region 1 with (fail)
    obtain ⟨W0, hW⟩ : ∃ W, W = w.alloc (.cells #[.int .i64 a.er, .slice A0 a.sn.length c0, .int .i64 a.nx, .slice B0 a.ce.length d0, .slice D0 a.ed.length f0, .int .i64 a.lf] 29) := ⟨_, rfl⟩
    have hbx : Below w.heap.size w W0 := by rw [hW]; exact bel1 _ _
    have hqx := heap_alloc_new w (.cells #[.int .i64 a.er, .slice A0 a.sn.length c0, .int .i64 a.nx, .slice B0 a.ce.length d0, .slice D0 a.ed.length f0, .int .i64 a.lf] 29)
    rw [← hW] at hqx ⊢
    obtain ⟨q1, hqq⟩ : ∃ q, q = w.heap.size := ⟨_, rfl⟩
    rw [← hqq] at hqx ⊢
    have hleq1 : w.heap.size ≤ q1 := Nat.le_of_eq hqq.symm
    clear hW hqq
    have HQ0 := Lib.hid hqx
    have HB0 := Lib.hid hbx
    clear hqx hbx
    go_wp2_with fail
    refine (rworks_any _).mono ?_
    rintro e w1 ⟨rfl, hb⟩
    have HQ1 := Lib.hid (blkB HQ0.out hb)
    have HB1 := Lib.hid (nx HB0.out hb)
    clear hb
    obtain ⟨x0, x1, x2, x3, x4, x5⟩ := an_block HQ1.out
    go_wp2_with fail
    refine (HSb.out _ HB1.out).mono ?_
    rintro e w2 ⟨rfl, hb⟩
    have HQ2 := Lib.hid (blkB HQ1.out hb)
    have HB2 := Lib.hid (nx HB1.out hb)
    clear hb
    clear x0 x1 x2 x3 x4 x5
    obtain ⟨x0, x1, x2, x3, x4, x5⟩ := an_block HQ2.out
    have g0 := frozen_of HQ2.out 0
    have g1 := frozen_of HQ2.out 1
    have g2 := frozen_of HQ2.out 2
    have g3 := frozen_of HQ2.out 3
    have g4 := frozen_of HQ2.out 4
    have g5 := frozen_of HQ2.out 5
    go_wp2_with fail
    obtain ⟨W3, hW⟩ : ∃ W, W = ((((((w2.setCell ⟨q1, 0, none⟩ (.int .i64 b.er)).setCell ⟨q1, 1, none⟩ (.slice A1 b.sn.length c1)).setCell ⟨q1, 2, none⟩ (.int .i64 b.nx)).setCell ⟨q1, 3, none⟩ (.slice B1 b.ce.length d1)).setCell ⟨q1, 4, none⟩ (.slice D1 b.ed.length f1)).setCell ⟨q1, 5, none⟩ (.int .i64 b.lf)) := ⟨_, rfl⟩
    have HQ3 := Lib.hid (show W3.heap[q1]? = some (.cells #[.int .i64 b.er, .slice A1 b.sn.length c1, .int .i64 b.nx, .slice B1 b.ce.length d1, .slice D1 b.ed.length f1, .int .i64 b.lf] 29 (0, 0)) by rw [hW]; exact (heap_set (heap_set (heap_set (heap_set (heap_set (heap_set HQ2.out 0 _) 1 _) 2 _) 3 _) 4 _) 5 _))
    have HB3 := Lib.hid (show Below w.heap.size w W3 by rw [hW]; exact ((((((HB2.out.setCell (p := ⟨q1, 0, none⟩) hleq1 _).setCell (p := ⟨q1, 1, none⟩) hleq1 _).setCell (p := ⟨q1, 2, none⟩) hleq1 _).setCell (p := ⟨q1, 3, none⟩) hleq1 _).setCell (p := ⟨q1, 4, none⟩) hleq1 _).setCell (p := ⟨q1, 5, none⟩) hleq1 _))
    rw [← hW]
    clear hW
    clear g0 g1 g2 g3 g4 g5
    clear x0 x1 x2 x3 x4 x5
    refine (rBytes_any (Hb.out.below HB3.out) HPb.out).mono ?_
    rw [anP_no HNO.out]
    intro e w4 hh
    obtain ⟨A4, n4, c4, rfl, hB, hb⟩ := hh.open (by intro x hx; cases hx) (by simp)
    have HQ4 := Lib.hid (blkB HQ3.out hb)
    have HB4 := Lib.hid (nx HB3.out hb)
    obtain rfl : n4 = 0 := hB.len
    clear hh hB hb
    obtain ⟨x0, x1, x2, x3, x4, x5⟩ := an_block HQ4.out
    go_wp2_with fail
    refine (rCheck_any (Hb.out.below HB4.out)).mono ?_
    rw [anP_no HNO.out]
    rintro e w5 ⟨rfl, hb⟩
    have HB5 := Lib.hid (nx HB4.out hb)
    clear x0 x1 x2 x3 x4 x5
    clear hb
    go_wp2_with fail
    go_ret
    exact ⟨rfl, HB5.out⟩
end Go.Proofs.Ytfedgjahbmcpoaa
