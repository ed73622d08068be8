/- The walk of the law ReplyApart. No conditions. -/
import Derived.Test.YtfedgjahbmcpoaaGA43
import Derived.Test.YtfedgjahbmcpoaaGA41
import Derived.Test.YtfedgjahbmcpoaaGA47
import Derived.Deep.DeepCutAuto
import Derived.Deep.RegionHeld3
set_option linter.unusedSimpArgs false
set_option linter.unusedVariables false
namespace Go.Proofs.Ytfedgjahbmcpoaa
open Go.RowKit

set_option maxHeartbeats 64000000 in
set_option maxRecDepth 100000 in
theorem replyApart_walk (a : Ans) (u v x : Value) (b : Ans) (u' v' x' : Value) (w : World) (hL : AnL w a u v x) (ho : AnsOk a) (hL' : AnL w b u' v' x') (ho' : AnsOk b) :
    Calls Try.prog 5 #[anV a u v x, anV b u' v' x'] w fun e w' => e = .returned (.bool true) ∧ Below w.heap.size w w' := by
  have HLp := Lib.hid hL
  have Hp0 := Lib.hid (hL).sm
  obtain ⟨A0, c0, e1, _⟩ := (hL).sn
  obtain ⟨B0, d0, e2, _⟩ := (hL).ce
  obtain ⟨D0, f0, e3, _⟩ := (hL).ed
  subst e1 e2 e3
  have HSp := Lib.hid (fun (w' : World) (hb : Below w.heap.size w w') => small_any (HLp.out.below hb))
  obtain ⟨p, ha'⟩ : ∃ a', a' = smA a := ⟨_, rfl⟩
  obtain ⟨u1, hu1⟩ : ∃ z, z = cut30 (.slice A0 a.sn.length c0) := ⟨_, rfl⟩
  obtain ⟨u2, hu2⟩ : ∃ z, z = cut30 (.slice B0 a.ce.length d0) := ⟨_, rfl⟩
  obtain ⟨u3, hu3⟩ : ∃ z, z = cut30 (.slice D0 a.ed.length f0) := ⟨_, rfl⟩
  rw [← ha', ← hu1, ← hu2, ← hu3] at Hp0 HSp
  clear ha' hu1 hu2 hu3
  have HPp := Lib.hid Hp0.out.pt
  obtain ⟨A1, c1, e1, _⟩ := Hp0.out.sn
  obtain ⟨B1, d1, e2, _⟩ := Hp0.out.ce
  obtain ⟨D1, f1, e3, _⟩ := Hp0.out.ed
  subst e1 e2 e3
  have Hp := Hp0
  clear Hp0
  unfold anV at HSp
  have HLr := Lib.hid hL'
  have Hr0 := Lib.hid (hL').sm
  obtain ⟨A2, c2, e1, _⟩ := (hL').sn
  obtain ⟨B2, d2, e2, _⟩ := (hL').ce
  obtain ⟨D2, f2, e3, _⟩ := (hL').ed
  subst e1 e2 e3
  have HSr := Lib.hid (fun (w' : World) (hb : Below w.heap.size w w') => small_any (HLr.out.below hb))
  obtain ⟨r, ha'⟩ : ∃ a', a' = smA b := ⟨_, rfl⟩
  obtain ⟨u1, hu1⟩ : ∃ z, z = cut30 (.slice A2 b.sn.length c2) := ⟨_, rfl⟩
  obtain ⟨u2, hu2⟩ : ∃ z, z = cut30 (.slice B2 b.ce.length d2) := ⟨_, rfl⟩
  obtain ⟨u3, hu3⟩ : ∃ z, z = cut30 (.slice D2 b.ed.length f2) := ⟨_, rfl⟩
  rw [← ha', ← hu1, ← hu2, ← hu3] at Hr0 HSr
  clear ha' hu1 hu2 hu3
  have HPr := Lib.hid Hr0.out.pt
  obtain ⟨A3, c3, e1, _⟩ := Hr0.out.sn
  obtain ⟨B3, d3, e2, _⟩ := Hr0.out.ce
  obtain ⟨D3, f3, e3, _⟩ := Hr0.out.ed
  subst e1 e2 e3
  have Hr := Hr0
  clear Hr0
  unfold anV at HSr
  clear hL ho hL' ho'
  unfold anV
  have hbx := nx (bel1 w (.cells #[.int .i64 a.er, .slice A0 a.sn.length c0, .int .i64 a.nx, .slice B0 a.ce.length d0, .slice D0 a.ed.length f0, .int .i64 a.lf] 29)) (bel1 (w.alloc (.cells #[.int .i64 a.er, .slice A0 a.sn.length c0, .int .i64 a.nx, .slice B0 a.ce.length d0, .slice D0 a.ed.length f0, .int .i64 a.lf] 29)) (.cells #[.int .i64 b.er, .slice A2 b.sn.length c2, .int .i64 b.nx, .slice B2 b.ce.length d2, .slice D2 b.ed.length f2, .int .i64 b.lf] 29))
  have X1 := blkB (heap_alloc_new w (.cells #[.int .i64 a.er, .slice A0 a.sn.length c0, .int .i64 a.nx, .slice B0 a.ce.length d0, .slice D0 a.ed.length f0, .int .i64 a.lf] 29)) (bel1 _ (.cells #[.int .i64 b.er, .slice A2 b.sn.length c2, .int .i64 b.nx, .slice B2 b.ce.length d2, .slice D2 b.ed.length f2, .int .i64 b.lf] 29))
  have X2 := heap_alloc_new (w.alloc (.cells #[.int .i64 a.er, .slice A0 a.sn.length c0, .int .i64 a.nx, .slice B0 a.ce.length d0, .slice D0 a.ed.length f0, .int .i64 a.lf] 29)) (.cells #[.int .i64 b.er, .slice A2 b.sn.length c2, .int .i64 b.nx, .slice B2 b.ce.length d2, .slice D2 b.ed.length f2, .int .i64 b.lf] 29)
  rw [World.size_alloc] at X2
  go_enter Try.func5, Try.ntmps5
  go_upto_region 1 with (fail)
  obtain ⟨W0, hW⟩ : ∃ W, W = (w.alloc (.cells #[.int .i64 a.er, .slice A0 a.sn.length c0, .int .i64 a.nx, .slice B0 a.ce.length d0, .slice D0 a.ed.length f0, .int .i64 a.lf] 29)).alloc (.cells #[.int .i64 b.er, .slice A2 b.sn.length c2, .int .i64 b.nx, .slice B2 b.ce.length d2, .slice D2 b.ed.length f2, .int .i64 b.lf] 29) := ⟨_, rfl⟩
  rw [← hW] at X1 X2 hbx ⊢
  obtain ⟨q2, hq2⟩ : ∃ q, q = w.heap.size + 1 := ⟨_, rfl⟩
  rw [← hq2] at X2 ⊢
  obtain ⟨q1, hq1⟩ : ∃ q, q = w.heap.size := ⟨_, rfl⟩
  rw [← hq1] at X1 ⊢
  have hne : q1 ≠ q2 := by omega
  have hleq1 : w.heap.size ≤ q1 := by omega
  have hleq2 : w.heap.size ≤ q2 := by omega
  have P0 := Lib.hid X1
  have R0 := Lib.hid X2
  have HB0 := Lib.hid hbx
  clear hW hq1 hq2 X1 X2 hbx
  go_wp2_with fail
  refine (rworks_any _).mono ?_
  rintro e w1 ⟨rfl, hb⟩
  have P1 := Lib.hid (blkB P0.out hb)
  have R1 := Lib.hid (blkB R0.out hb)
  have HB1 := Lib.hid (nx HB0.out hb)
  clear hb P0 R0 HB0
  go_upto_region 3 with (fail)
  go_cut [] (fun wx => Hid (wx.heap[q1]? = some (.cells #[.int .i64 p.er, .slice A1 p.sn.length c1, .int .i64 p.nx, .slice B1 p.ce.length d1, .slice D1 p.ed.length f1, .int .i64 p.lf] 29 (0, 0))) ∧ Hid (wx.heap[q2]? = some (.cells #[.int .i64 r.er, .slice A3 r.sn.length c3, .int .i64 r.nx, .slice B3 r.ce.length d3, .slice D3 r.ed.length f3, .int .i64 r.lf] 29 (0, 0))) ∧ Hid (Below w.heap.size w wx))
  case first =>
    refine wp_region_held_drew (S := (fun _ => True)) (by kernel_rfl) trivial (fun hHeld => ?_)
    have P1d := Lib.hid (blkB P1.out (bel0 w1).drew)
    have R1d := Lib.hid (blkB R1.out (bel0 w1).drew)
    have B1d := Lib.hid (nx HB1.out (bel0 w1).drew)
    obtain ⟨wd, hwd⟩ : ∃ W, W = w1.drew := ⟨_, rfl⟩
    rw [← hwd] at P1d R1d B1d ⊢
    clear hwd P1 R1 HB1
    refine wpAnyH_ready (rs := [0, 2]) (by kernel_rfl) (by simp) ?_
    refine AllReadyH.cons rfl (fun K hK => ?_) (AllReadyH.cons rfl (fun K hK => ?_) AllReadyH.nil)
    · skip
      obtain ⟨x0, x1, x2, x3, x4, x5⟩ := an_block P1d.out
      go_simp
      go_wp2_with fail
      refine hK.out _ _ trivial (fun _ => ?_)
      clear hK K
      clear x0 x1 x2 x3 x4 x5
      (try simp only [Act.put, List.getElem_toArray, List.getElem_cons_succ, List.getElem_cons_zero, List.setIfInBounds_toArray, List.set_cons_zero, List.set_cons_succ])
      refine wpAnyH_ready (rs := [1, 2]) (by kernel_rfl) (by simp) ?_
      refine AllReadyH.cons rfl (fun K hK => ?_) (AllReadyH.cons rfl (fun K hK => ?_) AllReadyH.nil)
      · skip
        go_simp
        go_at_call 14
        refine (HSp.out _ B1d.out).mono ?_
        rintro e t3 ⟨rfl, hb⟩
        have P3x := Lib.hid (blkB P1d.out hb)
        have R3x := Lib.hid (blkB R1d.out hb)
        have B3x := Lib.hid (nx B1d.out hb)
        clear hb
        go_wp2_with fail
        refine hK.out _ _ trivial (fun _ => ?_)
        clear hK K
        (try simp only [Act.put, List.getElem_toArray, List.getElem_cons_succ, List.getElem_cons_zero, List.setIfInBounds_toArray, List.set_cons_zero, List.set_cons_succ])
        refine wpAnyH_ready (rs := [2]) (by kernel_rfl) (by simp) ?_
        refine AllReadyH.cons rfl (fun K hK => ?_) AllReadyH.nil
        obtain ⟨x0, x1, x2, x3, x4, x5⟩ := an_block R3x.out
        go_simp
        go_wp2_with fail
        refine hK.out _ _ trivial (fun _ => ?_)
        clear hK K
        clear x0 x1 x2 x3 x4 x5
        (try simp only [Act.put, List.getElem_toArray, List.getElem_cons_succ, List.getElem_cons_zero, List.setIfInBounds_toArray, List.set_cons_zero, List.set_cons_succ])
        refine wpAnyH_ready (rs := [3]) (by kernel_rfl) (by simp) ?_
        refine AllReadyH.cons rfl (fun K hK => ?_) AllReadyH.nil
        go_simp
        go_at_call 14
        refine (HSr.out _ B3x.out).mono ?_
        rintro e t5 ⟨rfl, hb⟩
        have P5x := Lib.hid (blkB P3x.out hb)
        have R5x := Lib.hid (blkB R3x.out hb)
        have B5x := Lib.hid (nx B3x.out hb)
        clear hb
        go_wp2_with fail
        refine hK.out _ _ trivial (fun _ => ?_)
        clear hK K
        (try simp only [Act.put, List.getElem_toArray, List.getElem_cons_succ, List.getElem_cons_zero, List.setIfInBounds_toArray, List.set_cons_zero, List.set_cons_succ])
        refine wpAnyH_ready (rs := [4]) (by kernel_rfl) (by simp) ?_
        refine AllReadyH.cons rfl (fun K hK => ?_) AllReadyH.nil
        obtain ⟨x0, x1, x2, x3, x4, x5⟩ := an_block P5x.out
        have g0 := frozen_of P5x.out 0
        have g1 := frozen_of P5x.out 1
        have g2 := frozen_of P5x.out 2
        have g3 := frozen_of P5x.out 3
        have g4 := frozen_of P5x.out 4
        have g5 := frozen_of P5x.out 5
        go_simp
        go_wp2_with fail
        obtain ⟨T6, hW⟩ : ∃ W, W = ((((((t5.setCell ⟨q1, 0, none⟩ (.int .i64 p.er)).setCell ⟨q1, 1, none⟩ (.slice A1 p.sn.length c1)).setCell ⟨q1, 2, none⟩ (.int .i64 p.nx)).setCell ⟨q1, 3, none⟩ (.slice B1 p.ce.length d1)).setCell ⟨q1, 4, none⟩ (.slice D1 p.ed.length f1)).setCell ⟨q1, 5, none⟩ (.int .i64 p.lf)) := ⟨_, rfl⟩
        have P6x := Lib.hid (show T6.heap[q1]? = some (.cells #[.int .i64 p.er, .slice A1 p.sn.length c1, .int .i64 p.nx, .slice B1 p.ce.length d1, .slice D1 p.ed.length f1, .int .i64 p.lf] 29 (0, 0)) by rw [hW]; exact (heap_set (heap_set (heap_set (heap_set (heap_set (heap_set P5x.out 0 _) 1 _) 2 _) 3 _) 4 _) 5 _))
        have R6x := Lib.hid (show T6.heap[q2]? = some _ by rw [hW]; exact ((Below.heap_setCell (((((t5.setCell ⟨q1, 0, none⟩ (.int .i64 p.er)).setCell ⟨q1, 1, none⟩ (.slice A1 p.sn.length c1)).setCell ⟨q1, 2, none⟩ (.int .i64 p.nx)).setCell ⟨q1, 3, none⟩ (.slice B1 p.ce.length d1)).setCell ⟨q1, 4, none⟩ (.slice D1 p.ed.length f1)) ⟨q1, 5, none⟩ (.int .i64 p.lf) q2 (by show q2 ≠ q1; omega)).trans ((Below.heap_setCell ((((t5.setCell ⟨q1, 0, none⟩ (.int .i64 p.er)).setCell ⟨q1, 1, none⟩ (.slice A1 p.sn.length c1)).setCell ⟨q1, 2, none⟩ (.int .i64 p.nx)).setCell ⟨q1, 3, none⟩ (.slice B1 p.ce.length d1)) ⟨q1, 4, none⟩ (.slice D1 p.ed.length f1) q2 (by show q2 ≠ q1; omega)).trans ((Below.heap_setCell (((t5.setCell ⟨q1, 0, none⟩ (.int .i64 p.er)).setCell ⟨q1, 1, none⟩ (.slice A1 p.sn.length c1)).setCell ⟨q1, 2, none⟩ (.int .i64 p.nx)) ⟨q1, 3, none⟩ (.slice B1 p.ce.length d1) q2 (by show q2 ≠ q1; omega)).trans ((Below.heap_setCell ((t5.setCell ⟨q1, 0, none⟩ (.int .i64 p.er)).setCell ⟨q1, 1, none⟩ (.slice A1 p.sn.length c1)) ⟨q1, 2, none⟩ (.int .i64 p.nx) q2 (by show q2 ≠ q1; omega)).trans ((Below.heap_setCell (t5.setCell ⟨q1, 0, none⟩ (.int .i64 p.er)) ⟨q1, 1, none⟩ (.slice A1 p.sn.length c1) q2 (by show q2 ≠ q1; omega)).trans ((Below.heap_setCell t5 ⟨q1, 0, none⟩ (.int .i64 p.er) q2 (by show q2 ≠ q1; omega)).trans R5x.out)))))))
        have B6x := Lib.hid (show Below w.heap.size w T6 by rw [hW]; exact ((((((B5x.out.setCell (p := ⟨q1, 0, none⟩) hleq1 _).setCell (p := ⟨q1, 1, none⟩) hleq1 _).setCell (p := ⟨q1, 2, none⟩) hleq1 _).setCell (p := ⟨q1, 3, none⟩) hleq1 _).setCell (p := ⟨q1, 4, none⟩) hleq1 _).setCell (p := ⟨q1, 5, none⟩) hleq1 _))
        rw [← hW]
        clear hW
        clear x0 x1 x2 x3 x4 x5
        clear g0 g1 g2 g3 g4 g5
        refine hK.out _ _ trivial (fun _ => ?_)
        clear hK K
        (try simp only [Act.put, List.getElem_toArray, List.getElem_cons_succ, List.getElem_cons_zero, List.setIfInBounds_toArray, List.set_cons_zero, List.set_cons_succ])
        refine wpAnyH_ready (rs := [5]) (by kernel_rfl) (by simp) ?_
        refine AllReadyH.cons rfl (fun K hK => ?_) AllReadyH.nil
        obtain ⟨x0, x1, x2, x3, x4, x5⟩ := an_block R6x.out
        have g0 := frozen_of R6x.out 0
        have g1 := frozen_of R6x.out 1
        have g2 := frozen_of R6x.out 2
        have g3 := frozen_of R6x.out 3
        have g4 := frozen_of R6x.out 4
        have g5 := frozen_of R6x.out 5
        go_simp
        go_wp2_with fail
        obtain ⟨T7, hW⟩ : ∃ W, W = ((((((T6.setCell ⟨q2, 0, none⟩ (.int .i64 r.er)).setCell ⟨q2, 1, none⟩ (.slice A3 r.sn.length c3)).setCell ⟨q2, 2, none⟩ (.int .i64 r.nx)).setCell ⟨q2, 3, none⟩ (.slice B3 r.ce.length d3)).setCell ⟨q2, 4, none⟩ (.slice D3 r.ed.length f3)).setCell ⟨q2, 5, none⟩ (.int .i64 r.lf)) := ⟨_, rfl⟩
        have R7x := Lib.hid (show T7.heap[q2]? = some (.cells #[.int .i64 r.er, .slice A3 r.sn.length c3, .int .i64 r.nx, .slice B3 r.ce.length d3, .slice D3 r.ed.length f3, .int .i64 r.lf] 29 (0, 0)) by rw [hW]; exact (heap_set (heap_set (heap_set (heap_set (heap_set (heap_set R6x.out 0 _) 1 _) 2 _) 3 _) 4 _) 5 _))
        have P7x := Lib.hid (show T7.heap[q1]? = some _ by rw [hW]; exact ((Below.heap_setCell (((((T6.setCell ⟨q2, 0, none⟩ (.int .i64 r.er)).setCell ⟨q2, 1, none⟩ (.slice A3 r.sn.length c3)).setCell ⟨q2, 2, none⟩ (.int .i64 r.nx)).setCell ⟨q2, 3, none⟩ (.slice B3 r.ce.length d3)).setCell ⟨q2, 4, none⟩ (.slice D3 r.ed.length f3)) ⟨q2, 5, none⟩ (.int .i64 r.lf) q1 (by show q1 ≠ q2; omega)).trans ((Below.heap_setCell ((((T6.setCell ⟨q2, 0, none⟩ (.int .i64 r.er)).setCell ⟨q2, 1, none⟩ (.slice A3 r.sn.length c3)).setCell ⟨q2, 2, none⟩ (.int .i64 r.nx)).setCell ⟨q2, 3, none⟩ (.slice B3 r.ce.length d3)) ⟨q2, 4, none⟩ (.slice D3 r.ed.length f3) q1 (by show q1 ≠ q2; omega)).trans ((Below.heap_setCell (((T6.setCell ⟨q2, 0, none⟩ (.int .i64 r.er)).setCell ⟨q2, 1, none⟩ (.slice A3 r.sn.length c3)).setCell ⟨q2, 2, none⟩ (.int .i64 r.nx)) ⟨q2, 3, none⟩ (.slice B3 r.ce.length d3) q1 (by show q1 ≠ q2; omega)).trans ((Below.heap_setCell ((T6.setCell ⟨q2, 0, none⟩ (.int .i64 r.er)).setCell ⟨q2, 1, none⟩ (.slice A3 r.sn.length c3)) ⟨q2, 2, none⟩ (.int .i64 r.nx) q1 (by show q1 ≠ q2; omega)).trans ((Below.heap_setCell (T6.setCell ⟨q2, 0, none⟩ (.int .i64 r.er)) ⟨q2, 1, none⟩ (.slice A3 r.sn.length c3) q1 (by show q1 ≠ q2; omega)).trans ((Below.heap_setCell T6 ⟨q2, 0, none⟩ (.int .i64 r.er) q1 (by show q1 ≠ q2; omega)).trans P6x.out)))))))
        have B7x := Lib.hid (show Below w.heap.size w T7 by rw [hW]; exact ((((((B6x.out.setCell (p := ⟨q2, 0, none⟩) hleq2 _).setCell (p := ⟨q2, 1, none⟩) hleq2 _).setCell (p := ⟨q2, 2, none⟩) hleq2 _).setCell (p := ⟨q2, 3, none⟩) hleq2 _).setCell (p := ⟨q2, 4, none⟩) hleq2 _).setCell (p := ⟨q2, 5, none⟩) hleq2 _))
        rw [← hW]
        clear hW
        clear x0 x1 x2 x3 x4 x5
        clear g0 g1 g2 g3 g4 g5
        refine hK.out _ _ trivial (fun _ => ?_)
        clear hK K
        (try simp only [Act.put, List.getElem_toArray, List.getElem_cons_succ, List.getElem_cons_zero, List.setIfInBounds_toArray, List.set_cons_zero, List.set_cons_succ])
        refine wpAnyH_done (by kernel_rfl) ?_ _
        go_wp2_with fail
        go_meet
        exact ⟨P7x, R7x, B7x⟩
      · skip
        obtain ⟨x0, x1, x2, x3, x4, x5⟩ := an_block R1d.out
        go_simp
        go_wp2_with fail
        refine hK.out _ _ trivial (fun _ => ?_)
        clear hK K
        clear x0 x1 x2 x3 x4 x5
        (try simp only [Act.put, List.getElem_toArray, List.getElem_cons_succ, List.getElem_cons_zero, List.setIfInBounds_toArray, List.set_cons_zero, List.set_cons_succ])
        refine wpAnyH_ready (rs := [1]) (by kernel_rfl) (by simp) ?_
        refine AllReadyH.cons rfl (fun K hK => ?_) AllReadyH.nil
        go_simp
        go_at_call 14
        refine (HSp.out _ B1d.out).mono ?_
        rintro e t4 ⟨rfl, hb⟩
        have P4x := Lib.hid (blkB P1d.out hb)
        have R4x := Lib.hid (blkB R1d.out hb)
        have B4x := Lib.hid (nx B1d.out hb)
        clear hb
        go_wp2_with fail
        refine hK.out _ _ trivial (fun _ => ?_)
        clear hK K
        (try simp only [Act.put, List.getElem_toArray, List.getElem_cons_succ, List.getElem_cons_zero, List.setIfInBounds_toArray, List.set_cons_zero, List.set_cons_succ])
        refine wpAnyH_ready (rs := [3]) (by kernel_rfl) (by simp) ?_
        refine AllReadyH.cons rfl (fun K hK => ?_) AllReadyH.nil
        go_simp
        go_at_call 14
        refine (HSr.out _ B4x.out).mono ?_
        rintro e t5 ⟨rfl, hb⟩
        have P5x := Lib.hid (blkB P4x.out hb)
        have R5x := Lib.hid (blkB R4x.out hb)
        have B5x := Lib.hid (nx B4x.out hb)
        clear hb
        go_wp2_with fail
        refine hK.out _ _ trivial (fun _ => ?_)
        clear hK K
        (try simp only [Act.put, List.getElem_toArray, List.getElem_cons_succ, List.getElem_cons_zero, List.setIfInBounds_toArray, List.set_cons_zero, List.set_cons_succ])
        refine wpAnyH_ready (rs := [4]) (by kernel_rfl) (by simp) ?_
        refine AllReadyH.cons rfl (fun K hK => ?_) AllReadyH.nil
        obtain ⟨x0, x1, x2, x3, x4, x5⟩ := an_block P5x.out
        have g0 := frozen_of P5x.out 0
        have g1 := frozen_of P5x.out 1
        have g2 := frozen_of P5x.out 2
        have g3 := frozen_of P5x.out 3
        have g4 := frozen_of P5x.out 4
        have g5 := frozen_of P5x.out 5
        go_simp
        go_wp2_with fail
        obtain ⟨T6, hW⟩ : ∃ W, W = ((((((t5.setCell ⟨q1, 0, none⟩ (.int .i64 p.er)).setCell ⟨q1, 1, none⟩ (.slice A1 p.sn.length c1)).setCell ⟨q1, 2, none⟩ (.int .i64 p.nx)).setCell ⟨q1, 3, none⟩ (.slice B1 p.ce.length d1)).setCell ⟨q1, 4, none⟩ (.slice D1 p.ed.length f1)).setCell ⟨q1, 5, none⟩ (.int .i64 p.lf)) := ⟨_, rfl⟩
        have P6x := Lib.hid (show T6.heap[q1]? = some (.cells #[.int .i64 p.er, .slice A1 p.sn.length c1, .int .i64 p.nx, .slice B1 p.ce.length d1, .slice D1 p.ed.length f1, .int .i64 p.lf] 29 (0, 0)) by rw [hW]; exact (heap_set (heap_set (heap_set (heap_set (heap_set (heap_set P5x.out 0 _) 1 _) 2 _) 3 _) 4 _) 5 _))
        have R6x := Lib.hid (show T6.heap[q2]? = some _ by rw [hW]; exact ((Below.heap_setCell (((((t5.setCell ⟨q1, 0, none⟩ (.int .i64 p.er)).setCell ⟨q1, 1, none⟩ (.slice A1 p.sn.length c1)).setCell ⟨q1, 2, none⟩ (.int .i64 p.nx)).setCell ⟨q1, 3, none⟩ (.slice B1 p.ce.length d1)).setCell ⟨q1, 4, none⟩ (.slice D1 p.ed.length f1)) ⟨q1, 5, none⟩ (.int .i64 p.lf) q2 (by show q2 ≠ q1; omega)).trans ((Below.heap_setCell ((((t5.setCell ⟨q1, 0, none⟩ (.int .i64 p.er)).setCell ⟨q1, 1, none⟩ (.slice A1 p.sn.length c1)).setCell ⟨q1, 2, none⟩ (.int .i64 p.nx)).setCell ⟨q1, 3, none⟩ (.slice B1 p.ce.length d1)) ⟨q1, 4, none⟩ (.slice D1 p.ed.length f1) q2 (by show q2 ≠ q1; omega)).trans ((Below.heap_setCell (((t5.setCell ⟨q1, 0, none⟩ (.int .i64 p.er)).setCell ⟨q1, 1, none⟩ (.slice A1 p.sn.length c1)).setCell ⟨q1, 2, none⟩ (.int .i64 p.nx)) ⟨q1, 3, none⟩ (.slice B1 p.ce.length d1) q2 (by show q2 ≠ q1; omega)).trans ((Below.heap_setCell ((t5.setCell ⟨q1, 0, none⟩ (.int .i64 p.er)).setCell ⟨q1, 1, none⟩ (.slice A1 p.sn.length c1)) ⟨q1, 2, none⟩ (.int .i64 p.nx) q2 (by show q2 ≠ q1; omega)).trans ((Below.heap_setCell (t5.setCell ⟨q1, 0, none⟩ (.int .i64 p.er)) ⟨q1, 1, none⟩ (.slice A1 p.sn.length c1) q2 (by show q2 ≠ q1; omega)).trans ((Below.heap_setCell t5 ⟨q1, 0, none⟩ (.int .i64 p.er) q2 (by show q2 ≠ q1; omega)).trans R5x.out)))))))
        have B6x := Lib.hid (show Below w.heap.size w T6 by rw [hW]; exact ((((((B5x.out.setCell (p := ⟨q1, 0, none⟩) hleq1 _).setCell (p := ⟨q1, 1, none⟩) hleq1 _).setCell (p := ⟨q1, 2, none⟩) hleq1 _).setCell (p := ⟨q1, 3, none⟩) hleq1 _).setCell (p := ⟨q1, 4, none⟩) hleq1 _).setCell (p := ⟨q1, 5, none⟩) hleq1 _))
        rw [← hW]
        clear hW
        clear x0 x1 x2 x3 x4 x5
        clear g0 g1 g2 g3 g4 g5
        refine hK.out _ _ trivial (fun _ => ?_)
        clear hK K
        (try simp only [Act.put, List.getElem_toArray, List.getElem_cons_succ, List.getElem_cons_zero, List.setIfInBounds_toArray, List.set_cons_zero, List.set_cons_succ])
        refine wpAnyH_ready (rs := [5]) (by kernel_rfl) (by simp) ?_
        refine AllReadyH.cons rfl (fun K hK => ?_) AllReadyH.nil
        obtain ⟨x0, x1, x2, x3, x4, x5⟩ := an_block R6x.out
        have g0 := frozen_of R6x.out 0
        have g1 := frozen_of R6x.out 1
        have g2 := frozen_of R6x.out 2
        have g3 := frozen_of R6x.out 3
        have g4 := frozen_of R6x.out 4
        have g5 := frozen_of R6x.out 5
        go_simp
        go_wp2_with fail
        obtain ⟨T7, hW⟩ : ∃ W, W = ((((((T6.setCell ⟨q2, 0, none⟩ (.int .i64 r.er)).setCell ⟨q2, 1, none⟩ (.slice A3 r.sn.length c3)).setCell ⟨q2, 2, none⟩ (.int .i64 r.nx)).setCell ⟨q2, 3, none⟩ (.slice B3 r.ce.length d3)).setCell ⟨q2, 4, none⟩ (.slice D3 r.ed.length f3)).setCell ⟨q2, 5, none⟩ (.int .i64 r.lf)) := ⟨_, rfl⟩
        have R7x := Lib.hid (show T7.heap[q2]? = some (.cells #[.int .i64 r.er, .slice A3 r.sn.length c3, .int .i64 r.nx, .slice B3 r.ce.length d3, .slice D3 r.ed.length f3, .int .i64 r.lf] 29 (0, 0)) by rw [hW]; exact (heap_set (heap_set (heap_set (heap_set (heap_set (heap_set R6x.out 0 _) 1 _) 2 _) 3 _) 4 _) 5 _))
        have P7x := Lib.hid (show T7.heap[q1]? = some _ by rw [hW]; exact ((Below.heap_setCell (((((T6.setCell ⟨q2, 0, none⟩ (.int .i64 r.er)).setCell ⟨q2, 1, none⟩ (.slice A3 r.sn.length c3)).setCell ⟨q2, 2, none⟩ (.int .i64 r.nx)).setCell ⟨q2, 3, none⟩ (.slice B3 r.ce.length d3)).setCell ⟨q2, 4, none⟩ (.slice D3 r.ed.length f3)) ⟨q2, 5, none⟩ (.int .i64 r.lf) q1 (by show q1 ≠ q2; omega)).trans ((Below.heap_setCell ((((T6.setCell ⟨q2, 0, none⟩ (.int .i64 r.er)).setCell ⟨q2, 1, none⟩ (.slice A3 r.sn.length c3)).setCell ⟨q2, 2, none⟩ (.int .i64 r.nx)).setCell ⟨q2, 3, none⟩ (.slice B3 r.ce.length d3)) ⟨q2, 4, none⟩ (.slice D3 r.ed.length f3) q1 (by show q1 ≠ q2; omega)).trans ((Below.heap_setCell (((T6.setCell ⟨q2, 0, none⟩ (.int .i64 r.er)).setCell ⟨q2, 1, none⟩ (.slice A3 r.sn.length c3)).setCell ⟨q2, 2, none⟩ (.int .i64 r.nx)) ⟨q2, 3, none⟩ (.slice B3 r.ce.length d3) q1 (by show q1 ≠ q2; omega)).trans ((Below.heap_setCell ((T6.setCell ⟨q2, 0, none⟩ (.int .i64 r.er)).setCell ⟨q2, 1, none⟩ (.slice A3 r.sn.length c3)) ⟨q2, 2, none⟩ (.int .i64 r.nx) q1 (by show q1 ≠ q2; omega)).trans ((Below.heap_setCell (T6.setCell ⟨q2, 0, none⟩ (.int .i64 r.er)) ⟨q2, 1, none⟩ (.slice A3 r.sn.length c3) q1 (by show q1 ≠ q2; omega)).trans ((Below.heap_setCell T6 ⟨q2, 0, none⟩ (.int .i64 r.er) q1 (by show q1 ≠ q2; omega)).trans P6x.out)))))))
        have B7x := Lib.hid (show Below w.heap.size w T7 by rw [hW]; exact ((((((B6x.out.setCell (p := ⟨q2, 0, none⟩) hleq2 _).setCell (p := ⟨q2, 1, none⟩) hleq2 _).setCell (p := ⟨q2, 2, none⟩) hleq2 _).setCell (p := ⟨q2, 3, none⟩) hleq2 _).setCell (p := ⟨q2, 4, none⟩) hleq2 _).setCell (p := ⟨q2, 5, none⟩) hleq2 _))
        rw [← hW]
        clear hW
        clear x0 x1 x2 x3 x4 x5
        clear g0 g1 g2 g3 g4 g5
        refine hK.out _ _ trivial (fun _ => ?_)
        clear hK K
        (try simp only [Act.put, List.getElem_toArray, List.getElem_cons_succ, List.getElem_cons_zero, List.setIfInBounds_toArray, List.set_cons_zero, List.set_cons_succ])
        refine wpAnyH_done (by kernel_rfl) ?_ _
        go_wp2_with fail
        go_meet
        exact ⟨P7x, R7x, B7x⟩
    · skip
      obtain ⟨x0, x1, x2, x3, x4, x5⟩ := an_block R1d.out
      go_simp
      go_wp2_with fail
      refine hK.out _ _ trivial (fun _ => ?_)
      clear hK K
      clear x0 x1 x2 x3 x4 x5
      (try simp only [Act.put, List.getElem_toArray, List.getElem_cons_succ, List.getElem_cons_zero, List.setIfInBounds_toArray, List.set_cons_zero, List.set_cons_succ])
      refine wpAnyH_ready (rs := [0]) (by kernel_rfl) (by simp) ?_
      refine AllReadyH.cons rfl (fun K hK => ?_) AllReadyH.nil
      obtain ⟨x0, x1, x2, x3, x4, x5⟩ := an_block P1d.out
      go_simp
      go_wp2_with fail
      refine hK.out _ _ trivial (fun _ => ?_)
      clear hK K
      clear x0 x1 x2 x3 x4 x5
      (try simp only [Act.put, List.getElem_toArray, List.getElem_cons_succ, List.getElem_cons_zero, List.setIfInBounds_toArray, List.set_cons_zero, List.set_cons_succ])
      refine wpAnyH_ready (rs := [1]) (by kernel_rfl) (by simp) ?_
      refine AllReadyH.cons rfl (fun K hK => ?_) AllReadyH.nil
      go_simp
      go_at_call 14
      refine (HSp.out _ B1d.out).mono ?_
      rintro e t4 ⟨rfl, hb⟩
      have P4x := Lib.hid (blkB P1d.out hb)
      have R4x := Lib.hid (blkB R1d.out hb)
      have B4x := Lib.hid (nx B1d.out hb)
      clear hb
      go_wp2_with fail
      refine hK.out _ _ trivial (fun _ => ?_)
      clear hK K
      (try simp only [Act.put, List.getElem_toArray, List.getElem_cons_succ, List.getElem_cons_zero, List.setIfInBounds_toArray, List.set_cons_zero, List.set_cons_succ])
      refine wpAnyH_ready (rs := [3]) (by kernel_rfl) (by simp) ?_
      refine AllReadyH.cons rfl (fun K hK => ?_) AllReadyH.nil
      go_simp
      go_at_call 14
      refine (HSr.out _ B4x.out).mono ?_
      rintro e t5 ⟨rfl, hb⟩
      have P5x := Lib.hid (blkB P4x.out hb)
      have R5x := Lib.hid (blkB R4x.out hb)
      have B5x := Lib.hid (nx B4x.out hb)
      clear hb
      go_wp2_with fail
      refine hK.out _ _ trivial (fun _ => ?_)
      clear hK K
      (try simp only [Act.put, List.getElem_toArray, List.getElem_cons_succ, List.getElem_cons_zero, List.setIfInBounds_toArray, List.set_cons_zero, List.set_cons_succ])
      refine wpAnyH_ready (rs := [4]) (by kernel_rfl) (by simp) ?_
      refine AllReadyH.cons rfl (fun K hK => ?_) AllReadyH.nil
      obtain ⟨x0, x1, x2, x3, x4, x5⟩ := an_block P5x.out
      have g0 := frozen_of P5x.out 0
      have g1 := frozen_of P5x.out 1
      have g2 := frozen_of P5x.out 2
      have g3 := frozen_of P5x.out 3
      have g4 := frozen_of P5x.out 4
      have g5 := frozen_of P5x.out 5
      go_simp
      go_wp2_with fail
      obtain ⟨T6, hW⟩ : ∃ W, W = ((((((t5.setCell ⟨q1, 0, none⟩ (.int .i64 p.er)).setCell ⟨q1, 1, none⟩ (.slice A1 p.sn.length c1)).setCell ⟨q1, 2, none⟩ (.int .i64 p.nx)).setCell ⟨q1, 3, none⟩ (.slice B1 p.ce.length d1)).setCell ⟨q1, 4, none⟩ (.slice D1 p.ed.length f1)).setCell ⟨q1, 5, none⟩ (.int .i64 p.lf)) := ⟨_, rfl⟩
      have P6x := Lib.hid (show T6.heap[q1]? = some (.cells #[.int .i64 p.er, .slice A1 p.sn.length c1, .int .i64 p.nx, .slice B1 p.ce.length d1, .slice D1 p.ed.length f1, .int .i64 p.lf] 29 (0, 0)) by rw [hW]; exact (heap_set (heap_set (heap_set (heap_set (heap_set (heap_set P5x.out 0 _) 1 _) 2 _) 3 _) 4 _) 5 _))
      have R6x := Lib.hid (show T6.heap[q2]? = some _ by rw [hW]; exact ((Below.heap_setCell (((((t5.setCell ⟨q1, 0, none⟩ (.int .i64 p.er)).setCell ⟨q1, 1, none⟩ (.slice A1 p.sn.length c1)).setCell ⟨q1, 2, none⟩ (.int .i64 p.nx)).setCell ⟨q1, 3, none⟩ (.slice B1 p.ce.length d1)).setCell ⟨q1, 4, none⟩ (.slice D1 p.ed.length f1)) ⟨q1, 5, none⟩ (.int .i64 p.lf) q2 (by show q2 ≠ q1; omega)).trans ((Below.heap_setCell ((((t5.setCell ⟨q1, 0, none⟩ (.int .i64 p.er)).setCell ⟨q1, 1, none⟩ (.slice A1 p.sn.length c1)).setCell ⟨q1, 2, none⟩ (.int .i64 p.nx)).setCell ⟨q1, 3, none⟩ (.slice B1 p.ce.length d1)) ⟨q1, 4, none⟩ (.slice D1 p.ed.length f1) q2 (by show q2 ≠ q1; omega)).trans ((Below.heap_setCell (((t5.setCell ⟨q1, 0, none⟩ (.int .i64 p.er)).setCell ⟨q1, 1, none⟩ (.slice A1 p.sn.length c1)).setCell ⟨q1, 2, none⟩ (.int .i64 p.nx)) ⟨q1, 3, none⟩ (.slice B1 p.ce.length d1) q2 (by show q2 ≠ q1; omega)).trans ((Below.heap_setCell ((t5.setCell ⟨q1, 0, none⟩ (.int .i64 p.er)).setCell ⟨q1, 1, none⟩ (.slice A1 p.sn.length c1)) ⟨q1, 2, none⟩ (.int .i64 p.nx) q2 (by show q2 ≠ q1; omega)).trans ((Below.heap_setCell (t5.setCell ⟨q1, 0, none⟩ (.int .i64 p.er)) ⟨q1, 1, none⟩ (.slice A1 p.sn.length c1) q2 (by show q2 ≠ q1; omega)).trans ((Below.heap_setCell t5 ⟨q1, 0, none⟩ (.int .i64 p.er) q2 (by show q2 ≠ q1; omega)).trans R5x.out)))))))
      have B6x := Lib.hid (show Below w.heap.size w T6 by rw [hW]; exact ((((((B5x.out.setCell (p := ⟨q1, 0, none⟩) hleq1 _).setCell (p := ⟨q1, 1, none⟩) hleq1 _).setCell (p := ⟨q1, 2, none⟩) hleq1 _).setCell (p := ⟨q1, 3, none⟩) hleq1 _).setCell (p := ⟨q1, 4, none⟩) hleq1 _).setCell (p := ⟨q1, 5, none⟩) hleq1 _))
      rw [← hW]
      clear hW
      clear x0 x1 x2 x3 x4 x5
      clear g0 g1 g2 g3 g4 g5
      refine hK.out _ _ trivial (fun _ => ?_)
      clear hK K
      (try simp only [Act.put, List.getElem_toArray, List.getElem_cons_succ, List.getElem_cons_zero, List.setIfInBounds_toArray, List.set_cons_zero, List.set_cons_succ])
      refine wpAnyH_ready (rs := [5]) (by kernel_rfl) (by simp) ?_
      refine AllReadyH.cons rfl (fun K hK => ?_) AllReadyH.nil
      obtain ⟨x0, x1, x2, x3, x4, x5⟩ := an_block R6x.out
      have g0 := frozen_of R6x.out 0
      have g1 := frozen_of R6x.out 1
      have g2 := frozen_of R6x.out 2
      have g3 := frozen_of R6x.out 3
      have g4 := frozen_of R6x.out 4
      have g5 := frozen_of R6x.out 5
      go_simp
      go_wp2_with fail
      obtain ⟨T7, hW⟩ : ∃ W, W = ((((((T6.setCell ⟨q2, 0, none⟩ (.int .i64 r.er)).setCell ⟨q2, 1, none⟩ (.slice A3 r.sn.length c3)).setCell ⟨q2, 2, none⟩ (.int .i64 r.nx)).setCell ⟨q2, 3, none⟩ (.slice B3 r.ce.length d3)).setCell ⟨q2, 4, none⟩ (.slice D3 r.ed.length f3)).setCell ⟨q2, 5, none⟩ (.int .i64 r.lf)) := ⟨_, rfl⟩
      have R7x := Lib.hid (show T7.heap[q2]? = some (.cells #[.int .i64 r.er, .slice A3 r.sn.length c3, .int .i64 r.nx, .slice B3 r.ce.length d3, .slice D3 r.ed.length f3, .int .i64 r.lf] 29 (0, 0)) by rw [hW]; exact (heap_set (heap_set (heap_set (heap_set (heap_set (heap_set R6x.out 0 _) 1 _) 2 _) 3 _) 4 _) 5 _))
      have P7x := Lib.hid (show T7.heap[q1]? = some _ by rw [hW]; exact ((Below.heap_setCell (((((T6.setCell ⟨q2, 0, none⟩ (.int .i64 r.er)).setCell ⟨q2, 1, none⟩ (.slice A3 r.sn.length c3)).setCell ⟨q2, 2, none⟩ (.int .i64 r.nx)).setCell ⟨q2, 3, none⟩ (.slice B3 r.ce.length d3)).setCell ⟨q2, 4, none⟩ (.slice D3 r.ed.length f3)) ⟨q2, 5, none⟩ (.int .i64 r.lf) q1 (by show q1 ≠ q2; omega)).trans ((Below.heap_setCell ((((T6.setCell ⟨q2, 0, none⟩ (.int .i64 r.er)).setCell ⟨q2, 1, none⟩ (.slice A3 r.sn.length c3)).setCell ⟨q2, 2, none⟩ (.int .i64 r.nx)).setCell ⟨q2, 3, none⟩ (.slice B3 r.ce.length d3)) ⟨q2, 4, none⟩ (.slice D3 r.ed.length f3) q1 (by show q1 ≠ q2; omega)).trans ((Below.heap_setCell (((T6.setCell ⟨q2, 0, none⟩ (.int .i64 r.er)).setCell ⟨q2, 1, none⟩ (.slice A3 r.sn.length c3)).setCell ⟨q2, 2, none⟩ (.int .i64 r.nx)) ⟨q2, 3, none⟩ (.slice B3 r.ce.length d3) q1 (by show q1 ≠ q2; omega)).trans ((Below.heap_setCell ((T6.setCell ⟨q2, 0, none⟩ (.int .i64 r.er)).setCell ⟨q2, 1, none⟩ (.slice A3 r.sn.length c3)) ⟨q2, 2, none⟩ (.int .i64 r.nx) q1 (by show q1 ≠ q2; omega)).trans ((Below.heap_setCell (T6.setCell ⟨q2, 0, none⟩ (.int .i64 r.er)) ⟨q2, 1, none⟩ (.slice A3 r.sn.length c3) q1 (by show q1 ≠ q2; omega)).trans ((Below.heap_setCell T6 ⟨q2, 0, none⟩ (.int .i64 r.er) q1 (by show q1 ≠ q2; omega)).trans P6x.out)))))))
      have B7x := Lib.hid (show Below w.heap.size w T7 by rw [hW]; exact ((((((B6x.out.setCell (p := ⟨q2, 0, none⟩) hleq2 _).setCell (p := ⟨q2, 1, none⟩) hleq2 _).setCell (p := ⟨q2, 2, none⟩) hleq2 _).setCell (p := ⟨q2, 3, none⟩) hleq2 _).setCell (p := ⟨q2, 4, none⟩) hleq2 _).setCell (p := ⟨q2, 5, none⟩) hleq2 _))
      rw [← hW]
      clear hW
      clear x0 x1 x2 x3 x4 x5
      clear g0 g1 g2 g3 g4 g5
      refine hK.out _ _ trivial (fun _ => ?_)
      clear hK K
      (try simp only [Act.put, List.getElem_toArray, List.getElem_cons_succ, List.getElem_cons_zero, List.setIfInBounds_toArray, List.set_cons_zero, List.set_cons_succ])
      refine wpAnyH_done (by kernel_rfl) ?_ _
      go_wp2_with fail
      go_meet
      exact ⟨P7x, R7x, B7x⟩
  case rest =>
    clear P1 R1 HB1 HSp HSr HLp HLr
    obtain ⟨P1, R1, HB1⟩ := hcut
    by_cases he : p = r
    · have HE := Lib.hid he
      clear he
      by_cases ho : OkAn r
      · have HOr := Lib.hid ho
        have HOp := Lib.hid (show OkAn p by rw [HE.out]; exact ho)
        clear ho
        obtain ⟨x0, x1, x2, x3, x4, x5⟩ := an_block P1.out
        obtain ⟨y0, y1, y2, y3, y4, y5⟩ := an_block R1.out
        go_wp2_with fail
        refine (rBytes_any (Hp.out.below HB1.out) HPp.out).mono ?_
        rw [anP_yes HOp.out]
        intro e w10 hh
        obtain ⟨A10, n10, c10, rfl, hB10, hb⟩ := hh.open (anB_ok HOp.out HPp.out).1 (by have := (anB_ok HOp.out HPp.out).2; show (anB p).length ≤ _; omega)
        have P2 := Lib.hid (blkB P1.out hb)
        have R2 := Lib.hid (blkB R1.out hb)
        have HB2 := Lib.hid (nx HB1.out hb)
        have BS10 := Lib.hid hB10
        clear hh hB10 hb
        clear x0 x1 x2 x3 x4 x5 y0 y1 y2 y3 y4 y5
        obtain ⟨x0, x1, x2, x3, x4, x5⟩ := an_block P2.out
        obtain ⟨y0, y1, y2, y3, y4, y5⟩ := an_block R2.out
        go_wp2_with fail
        refine (rBytes_any (Hr.out.below HB2.out) HPr.out).mono ?_
        rw [anP_yes HOr.out]
        intro e w11 hh
        obtain ⟨A11, n11, c11, rfl, hB11, hb⟩ := hh.open (anB_ok HOr.out HPr.out).1 (by have := (anB_ok HOr.out HPr.out).2; show (anB r).length ≤ _; omega)
        replace BS10 := Lib.hid (BS10.out.below hb)
        have P3 := Lib.hid (blkB P2.out hb)
        have R3 := Lib.hid (blkB R2.out hb)
        have HB3 := Lib.hid (nx HB2.out hb)
        have BS11 := Lib.hid hB11
        clear hh hB11 hb
        clear x0 x1 x2 x3 x4 x5 y0 y1 y2 y3 y4 y5
        obtain ⟨x0, x1, x2, x3, x4, x5⟩ := an_block P3.out
        obtain ⟨y0, y1, y2, y3, y4, y5⟩ := an_block R3.out
        go_wp2_with fail
        refine (rSame_any (a := p) (b := r) (Hp.out.below HB3.out) (Hr.out.below HB3.out)).mono ?_
        rintro e wz ⟨bb, rfl, hbb, hb⟩
        obtain rfl : bb = true := hbb.2 HE.out
        replace BS10 := Lib.hid (BS10.out.below hb)
        replace BS11 := Lib.hid (BS11.out.below hb)
        have P4 := Lib.hid (blkB P3.out hb)
        have R4 := Lib.hid (blkB R3.out hb)
        have HB4 := Lib.hid (nx HB3.out hb)
        clear hbb hb
        clear x0 x1 x2 x3 x4 x5 y0 y1 y2 y3 y4 y5
        obtain ⟨x0, x1, x2, x3, x4, x5⟩ := an_block P4.out
        obtain ⟨y0, y1, y2, y3, y4, y5⟩ := an_block R4.out
        go_wp2_with fail
        refine (rSame_any (a := p) (b := p) (Hp.out.below HB4.out) (Hp.out.below HB4.out)).mono ?_
        rintro e wz ⟨bb, rfl, hbb, hb⟩
        obtain rfl : bb = true := hbb.2 (by trivial)
        replace BS10 := Lib.hid (BS10.out.below hb)
        replace BS11 := Lib.hid (BS11.out.below hb)
        have P5 := Lib.hid (blkB P4.out hb)
        have R5 := Lib.hid (blkB R4.out hb)
        have HB5 := Lib.hid (nx HB4.out hb)
        clear hbb hb
        clear x0 x1 x2 x3 x4 x5 y0 y1 y2 y3 y4 y5
        obtain ⟨x0, x1, x2, x3, x4, x5⟩ := an_block P5.out
        obtain ⟨y0, y1, y2, y3, y4, y5⟩ := an_block R5.out
        go_wp2_with fail
        refine (rSame_any (a := r) (b := p) (Hr.out.below HB5.out) (Hp.out.below HB5.out)).mono ?_
        rintro e wz ⟨bb, rfl, hbb, hb⟩
        obtain rfl : bb = true := hbb.2 HE.out.symm
        replace BS10 := Lib.hid (BS10.out.below hb)
        replace BS11 := Lib.hid (BS11.out.below hb)
        have P6 := Lib.hid (blkB P5.out hb)
        have R6 := Lib.hid (blkB R5.out hb)
        have HB6 := Lib.hid (nx HB5.out hb)
        clear hbb hb
        clear x0 x1 x2 x3 x4 x5 y0 y1 y2 y3 y4 y5
        obtain ⟨x0, x1, x2, x3, x4, x5⟩ := an_block P6.out
        obtain ⟨y0, y1, y2, y3, y4, y5⟩ := an_block R6.out
        go_wp2_with fail
        refine (eqBytes_any A10 A11 n10 c10 n11 c11 _ _ _ BS10.out BS11.out).mono ?_
        rintro e wz ⟨rfl, hb⟩
        rw [show decide (anB p = anB r) = true from decide_eq_true (by rw [HE.out])]
        have P7 := Lib.hid (blkB P6.out hb)
        have R7 := Lib.hid (blkB R6.out hb)
        have HB7 := Lib.hid (nx HB6.out hb)
        clear hb
        clear x0 x1 x2 x3 x4 x5 y0 y1 y2 y3 y4 y5
        go_wp2_with fail
        go_ret
        exact ⟨rfl, HB7.out⟩
      · have HOr := Lib.hid ho
        have HOp := Lib.hid (show ¬ OkAn p by rw [HE.out]; exact ho)
        clear ho
        obtain ⟨x0, x1, x2, x3, x4, x5⟩ := an_block P1.out
        obtain ⟨y0, y1, y2, y3, y4, y5⟩ := an_block R1.out
        go_wp2_with fail
        refine (rBytes_any (Hp.out.below HB1.out) HPp.out).mono ?_
        rw [anP_no HOp.out]
        intro e w10 hh
        obtain ⟨A10, n10, c10, rfl, hB10, hb⟩ := hh.open (by intro x hx; cases hx) (by simp)
        have P2 := Lib.hid (blkB P1.out hb)
        have R2 := Lib.hid (blkB R1.out hb)
        have HB2 := Lib.hid (nx HB1.out hb)
        have BS10 := Lib.hid hB10
        clear hh hB10 hb
        clear x0 x1 x2 x3 x4 x5 y0 y1 y2 y3 y4 y5
        obtain ⟨x0, x1, x2, x3, x4, x5⟩ := an_block P2.out
        obtain ⟨y0, y1, y2, y3, y4, y5⟩ := an_block R2.out
        go_wp2_with fail
        refine (rBytes_any (Hr.out.below HB2.out) HPr.out).mono ?_
        rw [anP_no HOr.out]
        intro e w11 hh
        obtain ⟨A11, n11, c11, rfl, hB11, hb⟩ := hh.open (by intro x hx; cases hx) (by simp)
        replace BS10 := Lib.hid (BS10.out.below hb)
        have P3 := Lib.hid (blkB P2.out hb)
        have R3 := Lib.hid (blkB R2.out hb)
        have HB3 := Lib.hid (nx HB2.out hb)
        have BS11 := Lib.hid hB11
        clear hh hB11 hb
        clear x0 x1 x2 x3 x4 x5 y0 y1 y2 y3 y4 y5
        obtain ⟨x0, x1, x2, x3, x4, x5⟩ := an_block P3.out
        obtain ⟨y0, y1, y2, y3, y4, y5⟩ := an_block R3.out
        go_wp2_with fail
        refine (rSame_any (a := p) (b := r) (Hp.out.below HB3.out) (Hr.out.below HB3.out)).mono ?_
        rintro e wz ⟨bb, rfl, hbb, hb⟩
        obtain rfl : bb = true := hbb.2 HE.out
        replace BS10 := Lib.hid (BS10.out.below hb)
        replace BS11 := Lib.hid (BS11.out.below hb)
        have P4 := Lib.hid (blkB P3.out hb)
        have R4 := Lib.hid (blkB R3.out hb)
        have HB4 := Lib.hid (nx HB3.out hb)
        clear hbb hb
        clear x0 x1 x2 x3 x4 x5 y0 y1 y2 y3 y4 y5
        obtain ⟨x0, x1, x2, x3, x4, x5⟩ := an_block P4.out
        obtain ⟨y0, y1, y2, y3, y4, y5⟩ := an_block R4.out
        go_wp2_with fail
        refine (rSame_any (a := p) (b := p) (Hp.out.below HB4.out) (Hp.out.below HB4.out)).mono ?_
        rintro e wz ⟨bb, rfl, hbb, hb⟩
        obtain rfl : bb = true := hbb.2 (by trivial)
        replace BS10 := Lib.hid (BS10.out.below hb)
        replace BS11 := Lib.hid (BS11.out.below hb)
        have P5 := Lib.hid (blkB P4.out hb)
        have R5 := Lib.hid (blkB R4.out hb)
        have HB5 := Lib.hid (nx HB4.out hb)
        clear hbb hb
        clear x0 x1 x2 x3 x4 x5 y0 y1 y2 y3 y4 y5
        obtain ⟨x0, x1, x2, x3, x4, x5⟩ := an_block P5.out
        obtain ⟨y0, y1, y2, y3, y4, y5⟩ := an_block R5.out
        go_wp2_with fail
        refine (rSame_any (a := r) (b := p) (Hr.out.below HB5.out) (Hp.out.below HB5.out)).mono ?_
        rintro e wz ⟨bb, rfl, hbb, hb⟩
        obtain rfl : bb = true := hbb.2 HE.out.symm
        replace BS10 := Lib.hid (BS10.out.below hb)
        replace BS11 := Lib.hid (BS11.out.below hb)
        have P6 := Lib.hid (blkB P5.out hb)
        have R6 := Lib.hid (blkB R5.out hb)
        have HB6 := Lib.hid (nx HB5.out hb)
        clear hbb hb
        clear x0 x1 x2 x3 x4 x5 y0 y1 y2 y3 y4 y5
        obtain ⟨x0, x1, x2, x3, x4, x5⟩ := an_block P6.out
        obtain ⟨y0, y1, y2, y3, y4, y5⟩ := an_block R6.out
        go_wp2_with fail
        go_ret
        exact ⟨rfl, HB6.out⟩
    · have HE := Lib.hid he
      clear he
      by_cases ho : OkAn p
      · have HOp := Lib.hid ho
        clear ho
        by_cases ho : OkAn r
        · have HOr := Lib.hid ho
          clear ho
          obtain ⟨x0, x1, x2, x3, x4, x5⟩ := an_block P1.out
          obtain ⟨y0, y1, y2, y3, y4, y5⟩ := an_block R1.out
          go_wp2_with fail
          refine (rBytes_any (Hp.out.below HB1.out) HPp.out).mono ?_
          rw [anP_yes HOp.out]
          intro e w10 hh
          obtain ⟨A10, n10, c10, rfl, hB10, hb⟩ := hh.open (anB_ok HOp.out HPp.out).1 (by have := (anB_ok HOp.out HPp.out).2; show (anB p).length ≤ _; omega)
          have P2 := Lib.hid (blkB P1.out hb)
          have R2 := Lib.hid (blkB R1.out hb)
          have HB2 := Lib.hid (nx HB1.out hb)
          have BS10 := Lib.hid hB10
          clear hh hB10 hb
          clear x0 x1 x2 x3 x4 x5 y0 y1 y2 y3 y4 y5
          obtain ⟨x0, x1, x2, x3, x4, x5⟩ := an_block P2.out
          obtain ⟨y0, y1, y2, y3, y4, y5⟩ := an_block R2.out
          go_wp2_with fail
          refine (rBytes_any (Hr.out.below HB2.out) HPr.out).mono ?_
          rw [anP_yes HOr.out]
          intro e w11 hh
          obtain ⟨A11, n11, c11, rfl, hB11, hb⟩ := hh.open (anB_ok HOr.out HPr.out).1 (by have := (anB_ok HOr.out HPr.out).2; show (anB r).length ≤ _; omega)
          replace BS10 := Lib.hid (BS10.out.below hb)
          have P3 := Lib.hid (blkB P2.out hb)
          have R3 := Lib.hid (blkB R2.out hb)
          have HB3 := Lib.hid (nx HB2.out hb)
          have BS11 := Lib.hid hB11
          clear hh hB11 hb
          clear x0 x1 x2 x3 x4 x5 y0 y1 y2 y3 y4 y5
          obtain ⟨x0, x1, x2, x3, x4, x5⟩ := an_block P3.out
          obtain ⟨y0, y1, y2, y3, y4, y5⟩ := an_block R3.out
          go_wp2_with fail
          refine (rSame_any (a := p) (b := r) (Hp.out.below HB3.out) (Hr.out.below HB3.out)).mono ?_
          rintro e wz ⟨bb, rfl, hbb, hb⟩
          obtain rfl : bb = false := by cases bb with | false => rfl | true => exact absurd (hbb.1 (by trivial)) HE.out
          replace BS10 := Lib.hid (BS10.out.below hb)
          replace BS11 := Lib.hid (BS11.out.below hb)
          have P4 := Lib.hid (blkB P3.out hb)
          have R4 := Lib.hid (blkB R3.out hb)
          have HB4 := Lib.hid (nx HB3.out hb)
          clear hbb hb
          clear x0 x1 x2 x3 x4 x5 y0 y1 y2 y3 y4 y5
          obtain ⟨x0, x1, x2, x3, x4, x5⟩ := an_block P4.out
          obtain ⟨y0, y1, y2, y3, y4, y5⟩ := an_block R4.out
          go_wp2_with fail
          refine (rSame_any (a := p) (b := p) (Hp.out.below HB4.out) (Hp.out.below HB4.out)).mono ?_
          rintro e wz ⟨bb, rfl, hbb, hb⟩
          obtain rfl : bb = true := hbb.2 (by trivial)
          replace BS10 := Lib.hid (BS10.out.below hb)
          replace BS11 := Lib.hid (BS11.out.below hb)
          have P5 := Lib.hid (blkB P4.out hb)
          have R5 := Lib.hid (blkB R4.out hb)
          have HB5 := Lib.hid (nx HB4.out hb)
          clear hbb hb
          clear x0 x1 x2 x3 x4 x5 y0 y1 y2 y3 y4 y5
          obtain ⟨x0, x1, x2, x3, x4, x5⟩ := an_block P5.out
          obtain ⟨y0, y1, y2, y3, y4, y5⟩ := an_block R5.out
          go_wp2_with fail
          refine (rSame_any (a := r) (b := p) (Hr.out.below HB5.out) (Hp.out.below HB5.out)).mono ?_
          rintro e wz ⟨bb, rfl, hbb, hb⟩
          obtain rfl : bb = false := by cases bb with | false => rfl | true => exact absurd (hbb.1 (by trivial)) (fun e => HE.out e.symm)
          replace BS10 := Lib.hid (BS10.out.below hb)
          replace BS11 := Lib.hid (BS11.out.below hb)
          have P6 := Lib.hid (blkB P5.out hb)
          have R6 := Lib.hid (blkB R5.out hb)
          have HB6 := Lib.hid (nx HB5.out hb)
          clear hbb hb
          clear x0 x1 x2 x3 x4 x5 y0 y1 y2 y3 y4 y5
          obtain ⟨x0, x1, x2, x3, x4, x5⟩ := an_block P6.out
          obtain ⟨y0, y1, y2, y3, y4, y5⟩ := an_block R6.out
          go_wp2_with fail
          refine (eqBytes_any A10 A11 n10 c10 n11 c11 _ _ _ BS10.out BS11.out).mono ?_
          rintro e wz ⟨rfl, hb⟩
          rw [show decide (anB p = anB r) = false from decide_eq_false (fun e => HE.out (anB_inj HOp.out HOr.out HPp.out HPr.out e))]
          have P7 := Lib.hid (blkB P6.out hb)
          have R7 := Lib.hid (blkB R6.out hb)
          have HB7 := Lib.hid (nx HB6.out hb)
          clear hb
          clear x0 x1 x2 x3 x4 x5 y0 y1 y2 y3 y4 y5
          go_wp2_with fail
          go_ret
          exact ⟨rfl, HB7.out⟩
        · have HOr := Lib.hid ho
          clear ho
          obtain ⟨x0, x1, x2, x3, x4, x5⟩ := an_block P1.out
          obtain ⟨y0, y1, y2, y3, y4, y5⟩ := an_block R1.out
          go_wp2_with fail
          refine (rBytes_any (Hp.out.below HB1.out) HPp.out).mono ?_
          rw [anP_yes HOp.out]
          intro e w10 hh
          obtain ⟨A10, n10, c10, rfl, hB10, hb⟩ := hh.open (anB_ok HOp.out HPp.out).1 (by have := (anB_ok HOp.out HPp.out).2; show (anB p).length ≤ _; omega)
          have P2 := Lib.hid (blkB P1.out hb)
          have R2 := Lib.hid (blkB R1.out hb)
          have HB2 := Lib.hid (nx HB1.out hb)
          have BS10 := Lib.hid hB10
          clear hh hB10 hb
          clear x0 x1 x2 x3 x4 x5 y0 y1 y2 y3 y4 y5
          obtain ⟨x0, x1, x2, x3, x4, x5⟩ := an_block P2.out
          obtain ⟨y0, y1, y2, y3, y4, y5⟩ := an_block R2.out
          go_wp2_with fail
          refine (rBytes_any (Hr.out.below HB2.out) HPr.out).mono ?_
          rw [anP_no HOr.out]
          intro e w11 hh
          obtain ⟨A11, n11, c11, rfl, hB11, hb⟩ := hh.open (by intro x hx; cases hx) (by simp)
          replace BS10 := Lib.hid (BS10.out.below hb)
          have P3 := Lib.hid (blkB P2.out hb)
          have R3 := Lib.hid (blkB R2.out hb)
          have HB3 := Lib.hid (nx HB2.out hb)
          have BS11 := Lib.hid hB11
          clear hh hB11 hb
          clear x0 x1 x2 x3 x4 x5 y0 y1 y2 y3 y4 y5
          obtain ⟨x0, x1, x2, x3, x4, x5⟩ := an_block P3.out
          obtain ⟨y0, y1, y2, y3, y4, y5⟩ := an_block R3.out
          go_wp2_with fail
          refine (rSame_any (a := p) (b := r) (Hp.out.below HB3.out) (Hr.out.below HB3.out)).mono ?_
          rintro e wz ⟨bb, rfl, hbb, hb⟩
          obtain rfl : bb = false := by cases bb with | false => rfl | true => exact absurd (hbb.1 (by trivial)) HE.out
          replace BS10 := Lib.hid (BS10.out.below hb)
          replace BS11 := Lib.hid (BS11.out.below hb)
          have P4 := Lib.hid (blkB P3.out hb)
          have R4 := Lib.hid (blkB R3.out hb)
          have HB4 := Lib.hid (nx HB3.out hb)
          clear hbb hb
          clear x0 x1 x2 x3 x4 x5 y0 y1 y2 y3 y4 y5
          obtain ⟨x0, x1, x2, x3, x4, x5⟩ := an_block P4.out
          obtain ⟨y0, y1, y2, y3, y4, y5⟩ := an_block R4.out
          go_wp2_with fail
          refine (rSame_any (a := p) (b := p) (Hp.out.below HB4.out) (Hp.out.below HB4.out)).mono ?_
          rintro e wz ⟨bb, rfl, hbb, hb⟩
          obtain rfl : bb = true := hbb.2 (by trivial)
          replace BS10 := Lib.hid (BS10.out.below hb)
          replace BS11 := Lib.hid (BS11.out.below hb)
          have P5 := Lib.hid (blkB P4.out hb)
          have R5 := Lib.hid (blkB R4.out hb)
          have HB5 := Lib.hid (nx HB4.out hb)
          clear hbb hb
          clear x0 x1 x2 x3 x4 x5 y0 y1 y2 y3 y4 y5
          obtain ⟨x0, x1, x2, x3, x4, x5⟩ := an_block P5.out
          obtain ⟨y0, y1, y2, y3, y4, y5⟩ := an_block R5.out
          go_wp2_with fail
          refine (rSame_any (a := r) (b := p) (Hr.out.below HB5.out) (Hp.out.below HB5.out)).mono ?_
          rintro e wz ⟨bb, rfl, hbb, hb⟩
          obtain rfl : bb = false := by cases bb with | false => rfl | true => exact absurd (hbb.1 (by trivial)) (fun e => HE.out e.symm)
          replace BS10 := Lib.hid (BS10.out.below hb)
          replace BS11 := Lib.hid (BS11.out.below hb)
          have P6 := Lib.hid (blkB P5.out hb)
          have R6 := Lib.hid (blkB R5.out hb)
          have HB6 := Lib.hid (nx HB5.out hb)
          clear hbb hb
          clear x0 x1 x2 x3 x4 x5 y0 y1 y2 y3 y4 y5
          obtain ⟨x0, x1, x2, x3, x4, x5⟩ := an_block P6.out
          obtain ⟨y0, y1, y2, y3, y4, y5⟩ := an_block R6.out
          go_wp2_with fail
          go_ret
          exact ⟨rfl, HB6.out⟩
      · have HOp := Lib.hid ho
        clear ho
        by_cases ho : OkAn r
        · have HOr := Lib.hid ho
          clear ho
          obtain ⟨x0, x1, x2, x3, x4, x5⟩ := an_block P1.out
          obtain ⟨y0, y1, y2, y3, y4, y5⟩ := an_block R1.out
          go_wp2_with fail
          refine (rBytes_any (Hp.out.below HB1.out) HPp.out).mono ?_
          rw [anP_no HOp.out]
          intro e w10 hh
          obtain ⟨A10, n10, c10, rfl, hB10, hb⟩ := hh.open (by intro x hx; cases hx) (by simp)
          have P2 := Lib.hid (blkB P1.out hb)
          have R2 := Lib.hid (blkB R1.out hb)
          have HB2 := Lib.hid (nx HB1.out hb)
          have BS10 := Lib.hid hB10
          clear hh hB10 hb
          clear x0 x1 x2 x3 x4 x5 y0 y1 y2 y3 y4 y5
          obtain ⟨x0, x1, x2, x3, x4, x5⟩ := an_block P2.out
          obtain ⟨y0, y1, y2, y3, y4, y5⟩ := an_block R2.out
          go_wp2_with fail
          refine (rBytes_any (Hr.out.below HB2.out) HPr.out).mono ?_
          rw [anP_yes HOr.out]
          intro e w11 hh
          obtain ⟨A11, n11, c11, rfl, hB11, hb⟩ := hh.open (anB_ok HOr.out HPr.out).1 (by have := (anB_ok HOr.out HPr.out).2; show (anB r).length ≤ _; omega)
          replace BS10 := Lib.hid (BS10.out.below hb)
          have P3 := Lib.hid (blkB P2.out hb)
          have R3 := Lib.hid (blkB R2.out hb)
          have HB3 := Lib.hid (nx HB2.out hb)
          have BS11 := Lib.hid hB11
          clear hh hB11 hb
          clear x0 x1 x2 x3 x4 x5 y0 y1 y2 y3 y4 y5
          obtain ⟨x0, x1, x2, x3, x4, x5⟩ := an_block P3.out
          obtain ⟨y0, y1, y2, y3, y4, y5⟩ := an_block R3.out
          go_wp2_with fail
          refine (rSame_any (a := p) (b := r) (Hp.out.below HB3.out) (Hr.out.below HB3.out)).mono ?_
          rintro e wz ⟨bb, rfl, hbb, hb⟩
          obtain rfl : bb = false := by cases bb with | false => rfl | true => exact absurd (hbb.1 (by trivial)) HE.out
          replace BS10 := Lib.hid (BS10.out.below hb)
          replace BS11 := Lib.hid (BS11.out.below hb)
          have P4 := Lib.hid (blkB P3.out hb)
          have R4 := Lib.hid (blkB R3.out hb)
          have HB4 := Lib.hid (nx HB3.out hb)
          clear hbb hb
          clear x0 x1 x2 x3 x4 x5 y0 y1 y2 y3 y4 y5
          obtain ⟨x0, x1, x2, x3, x4, x5⟩ := an_block P4.out
          obtain ⟨y0, y1, y2, y3, y4, y5⟩ := an_block R4.out
          go_wp2_with fail
          refine (rSame_any (a := p) (b := p) (Hp.out.below HB4.out) (Hp.out.below HB4.out)).mono ?_
          rintro e wz ⟨bb, rfl, hbb, hb⟩
          obtain rfl : bb = true := hbb.2 (by trivial)
          replace BS10 := Lib.hid (BS10.out.below hb)
          replace BS11 := Lib.hid (BS11.out.below hb)
          have P5 := Lib.hid (blkB P4.out hb)
          have R5 := Lib.hid (blkB R4.out hb)
          have HB5 := Lib.hid (nx HB4.out hb)
          clear hbb hb
          clear x0 x1 x2 x3 x4 x5 y0 y1 y2 y3 y4 y5
          obtain ⟨x0, x1, x2, x3, x4, x5⟩ := an_block P5.out
          obtain ⟨y0, y1, y2, y3, y4, y5⟩ := an_block R5.out
          go_wp2_with fail
          refine (rSame_any (a := r) (b := p) (Hr.out.below HB5.out) (Hp.out.below HB5.out)).mono ?_
          rintro e wz ⟨bb, rfl, hbb, hb⟩
          obtain rfl : bb = false := by cases bb with | false => rfl | true => exact absurd (hbb.1 (by trivial)) (fun e => HE.out e.symm)
          replace BS10 := Lib.hid (BS10.out.below hb)
          replace BS11 := Lib.hid (BS11.out.below hb)
          have P6 := Lib.hid (blkB P5.out hb)
          have R6 := Lib.hid (blkB R5.out hb)
          have HB6 := Lib.hid (nx HB5.out hb)
          clear hbb hb
          clear x0 x1 x2 x3 x4 x5 y0 y1 y2 y3 y4 y5
          obtain ⟨x0, x1, x2, x3, x4, x5⟩ := an_block P6.out
          obtain ⟨y0, y1, y2, y3, y4, y5⟩ := an_block R6.out
          go_wp2_with fail
          go_ret
          exact ⟨rfl, HB6.out⟩
        · have HOr := Lib.hid ho
          clear ho
          obtain ⟨x0, x1, x2, x3, x4, x5⟩ := an_block P1.out
          obtain ⟨y0, y1, y2, y3, y4, y5⟩ := an_block R1.out
          go_wp2_with fail
          refine (rBytes_any (Hp.out.below HB1.out) HPp.out).mono ?_
          rw [anP_no HOp.out]
          intro e w10 hh
          obtain ⟨A10, n10, c10, rfl, hB10, hb⟩ := hh.open (by intro x hx; cases hx) (by simp)
          have P2 := Lib.hid (blkB P1.out hb)
          have R2 := Lib.hid (blkB R1.out hb)
          have HB2 := Lib.hid (nx HB1.out hb)
          have BS10 := Lib.hid hB10
          clear hh hB10 hb
          clear x0 x1 x2 x3 x4 x5 y0 y1 y2 y3 y4 y5
          obtain ⟨x0, x1, x2, x3, x4, x5⟩ := an_block P2.out
          obtain ⟨y0, y1, y2, y3, y4, y5⟩ := an_block R2.out
          go_wp2_with fail
          refine (rBytes_any (Hr.out.below HB2.out) HPr.out).mono ?_
          rw [anP_no HOr.out]
          intro e w11 hh
          obtain ⟨A11, n11, c11, rfl, hB11, hb⟩ := hh.open (by intro x hx; cases hx) (by simp)
          replace BS10 := Lib.hid (BS10.out.below hb)
          have P3 := Lib.hid (blkB P2.out hb)
          have R3 := Lib.hid (blkB R2.out hb)
          have HB3 := Lib.hid (nx HB2.out hb)
          have BS11 := Lib.hid hB11
          clear hh hB11 hb
          clear x0 x1 x2 x3 x4 x5 y0 y1 y2 y3 y4 y5
          obtain ⟨x0, x1, x2, x3, x4, x5⟩ := an_block P3.out
          obtain ⟨y0, y1, y2, y3, y4, y5⟩ := an_block R3.out
          go_wp2_with fail
          refine (rSame_any (a := p) (b := r) (Hp.out.below HB3.out) (Hr.out.below HB3.out)).mono ?_
          rintro e wz ⟨bb, rfl, hbb, hb⟩
          obtain rfl : bb = false := by cases bb with | false => rfl | true => exact absurd (hbb.1 (by trivial)) HE.out
          replace BS10 := Lib.hid (BS10.out.below hb)
          replace BS11 := Lib.hid (BS11.out.below hb)
          have P4 := Lib.hid (blkB P3.out hb)
          have R4 := Lib.hid (blkB R3.out hb)
          have HB4 := Lib.hid (nx HB3.out hb)
          clear hbb hb
          clear x0 x1 x2 x3 x4 x5 y0 y1 y2 y3 y4 y5
          obtain ⟨x0, x1, x2, x3, x4, x5⟩ := an_block P4.out
          obtain ⟨y0, y1, y2, y3, y4, y5⟩ := an_block R4.out
          go_wp2_with fail
          refine (rSame_any (a := p) (b := p) (Hp.out.below HB4.out) (Hp.out.below HB4.out)).mono ?_
          rintro e wz ⟨bb, rfl, hbb, hb⟩
          obtain rfl : bb = true := hbb.2 (by trivial)
          replace BS10 := Lib.hid (BS10.out.below hb)
          replace BS11 := Lib.hid (BS11.out.below hb)
          have P5 := Lib.hid (blkB P4.out hb)
          have R5 := Lib.hid (blkB R4.out hb)
          have HB5 := Lib.hid (nx HB4.out hb)
          clear hbb hb
          clear x0 x1 x2 x3 x4 x5 y0 y1 y2 y3 y4 y5
          obtain ⟨x0, x1, x2, x3, x4, x5⟩ := an_block P5.out
          obtain ⟨y0, y1, y2, y3, y4, y5⟩ := an_block R5.out
          go_wp2_with fail
          refine (rSame_any (a := r) (b := p) (Hr.out.below HB5.out) (Hp.out.below HB5.out)).mono ?_
          rintro e wz ⟨bb, rfl, hbb, hb⟩
          obtain rfl : bb = false := by cases bb with | false => rfl | true => exact absurd (hbb.1 (by trivial)) (fun e => HE.out e.symm)
          replace BS10 := Lib.hid (BS10.out.below hb)
          replace BS11 := Lib.hid (BS11.out.below hb)
          have P6 := Lib.hid (blkB P5.out hb)
          have R6 := Lib.hid (blkB R5.out hb)
          have HB6 := Lib.hid (nx HB5.out hb)
          clear hbb hb
          clear x0 x1 x2 x3 x4 x5 y0 y1 y2 y3 y4 y5
          obtain ⟨x0, x1, x2, x3, x4, x5⟩ := an_block P6.out
          obtain ⟨y0, y1, y2, y3, y4, y5⟩ := an_block R6.out
          go_wp2_with fail
          go_ret
          exact ⟨rfl, HB6.out⟩
end Go.Proofs.Ytfedgjahbmcpoaa
